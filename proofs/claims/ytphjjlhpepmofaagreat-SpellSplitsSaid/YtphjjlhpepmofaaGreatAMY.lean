/- Aggregates, new rows, cuts of rows. -/
import Derived.Test.YtphjjlhpepmofaaGreatAMX
import Derived.ChangeKeysEq
import Derived.MapKept
import Derived.Orders
set_option linter.all false
namespace Go.AM
open Go
variable [dr : Inhabited Prop]

section
variable {P : Program} {C : Cx} {n : Nat} {F : Nat → Prop} {s : St} {a : Act} {W : World} {hdr : Nat → Value} {ow : Nat → Option Nat} {id : Nat} {o : Oper}

theorem range0 {α : Type} (g : Nat → α) : (Array.range 0).map g = #[] := by apply Array.ext'; simp

theorem mapM_places : ∀ (fs : List Field), (∀ f ∈ fs, knownT P f.type = true) → fs.mapM (fun f => (P.info? f.type).map fun i => (f.offset, i.size)) = some (fs.map fun f => (f.offset, szT P f.type))
  | [], _ => by simp
  | f :: fs, h => by
    obtain ⟨i, d, h1, h2, h3⟩ := known_info (h f (by simp))
    simp [List.mapM_cons, h1, mapM_places fs (fun g hg => h g (by simp [hg])), h3]

theorem snd_build_s {qq zb : Bool} (r : RelAt C n F s a W hdr ow) {t : TypeId} {xs : Array (Nat × Operand)} {fs : Array Field} {ps : List (Nat × Nat × Opd)} {z cs : List PV} {H' : Heap} (ho : o.op = .build t xs) (hd : P.underlying t = some (.struct fs)) (hz : zeroB P zb t = some z)
    (hm : mapO (fun (i, x) => match fs[i]? with
        | some f => if knownT P f.type = true then (opd P f.type x).map fun x => (f.offset, szT P f.type, x) else none
        | none => none) xs.toList = some ps) (hk : fs.all (fun f => knownT P f.type) = true) (hb : buildP qq s.env z s.heap ps = some (cs, H')) : Snd P C n F s a W id o (.v (.st cs)) H' := by
  have hk' : ∀ f ∈ fs.toList, knownT P f.type = true := by
    intro f hf
    rw [← Array.all_toList] at hk
    exact List.all_eq_true.1 hk f hf
  refine snd_build r (place := fun i => (fs.toList.map fun f => (f.offset, szT P f.type)).toArray[i]?) ho hz ?_ hm hb ?_
  · intro i x off sz y h
    simp only at h
    split at h
    · rename_i f hf
      split at h
      · simp only [Option.map_eq_some_iff, Prod.mk.injEq] at h
        obtain ⟨y', hy, rfl, rfl, rfl⟩ := h
        exact ⟨by simp [hf], f.type, hy⟩
      · cases h
    · cases h
  · intro v i cells hi hv hfill
    have hbuilt : P.built t (xs.toList.map fun q => (q.1, a.eval q.2)) = some cells := by
      simp only [Program.built, hi, hd, hv, mapM_places fs.toList hk']
      exact hfill
    have := run_build (P := P) W t (xs.map fun q => (q.1, a.eval q.2)) cells (by simpa using hbuilt)
    simp only [execOp, ho]
    exact run_value this

theorem snd_build_a {qq zb : Bool} (r : RelAt C n F s a W hdr ow) {t e : TypeId} {m : Nat} {xs : Array (Nat × Operand)} {ps : List (Nat × Nat × Opd)} {z cs : List PV} {H' : Heap} (ho : o.op = .build t xs) (hd : P.underlying t = some (.array m e)) (hz : zeroB P zb t = some z)
    (hm : mapO (fun (i, x) => (opd P e x).map fun x => (i * szT P e, szT P e, x)) xs.toList = some ps) (hk : knownT P e = true) (hb : buildP qq s.env z s.heap ps = some (cs, H')) : Snd P C n F s a W id o (.v (.st cs)) H' := by
  obtain ⟨ie, de, h1, h2, h3⟩ := known_info hk
  refine snd_build r (place := fun i => some (i * szT P e, szT P e)) ho hz ?_ hm hb ?_
  · intro i x off sz y h
    simp only [Option.map_eq_some_iff, Prod.mk.injEq] at h
    obtain ⟨y', hy, rfl, rfl, rfl⟩ := h
    exact ⟨rfl, e, hy⟩
  · intro v i cells hi hv hfill
    have hbuilt : P.built t (xs.toList.map fun q => (q.1, a.eval q.2)) = some cells := by
      simp only [Program.built, hi, hd, hv, h1, ← h3]
      exact hfill
    have := run_build (P := P) W t (xs.map fun q => (q.1, a.eval q.2)) cells (by simpa using hbuilt)
    simp only [execOp, ho]
    exact run_value this

theorem RepL.ofGet {ok : Nat → Prop} {sz : Nat} : ∀ {l : List PV} {vs : List Value}, vs.length = l.length * sz → (∀ i p, l[i]? = some p → RepC W ok p ((vs.drop (i * sz)).take sz)) → RepL W ok sz l vs
  | [], vs, h, _ => by
    simp at h; subst h; exact .nil
  | p :: l, vs, h, hg => by
    have e : vs = vs.take sz ++ vs.drop sz := (List.take_append_drop sz vs).symm
    have h' : vs.length = l.length * sz + sz := by rw [h, List.length_cons, Nat.add_mul, Nat.one_mul]
    rw [e]
    refine .cons (by simp; omega) (by simpa using hg 0 p rfl) (RepL.ofGet (by simp; omega) fun i q hq => ?_)
    have := hg (i + 1) q (by simpa using hq)
    rw [List.drop_drop]
    rwa [show sz + i * sz = (i + 1) * sz by rw [Nat.add_mul, Nat.one_mul, Nat.add_comm]]

/-- A row of zero values. -/
theorem zero_row {ok : Nat → Prop} {p : PV} {z : Array Value} (hp : RepC W ok p z.toList) (hz : z.size ≠ 0) (m : Nat) : RepL W ok z.size (List.replicate m p) ((Array.range (m * z.size)).map (z[· % z.size]!)).toList := by
  refine RepL.ofGet (by simp) fun i q hq => ?_
  rw [List.getElem?_replicate] at hq
  split at hq
  · rename_i hi
    cases hq
    have hle : (i + 1) * z.size ≤ m * z.size := Nat.mul_le_mul_right _ hi
    have hm' : (i + 1) * z.size = i * z.size + z.size := by rw [Nat.add_mul, Nat.one_mul]
    have e : ((((Array.range (m * z.size)).map (z[· % z.size]!)).toList.drop (i * z.size)).take z.size) = z.toList := by
      apply List.ext_getElem?
      intro j
      rw [List.getElem?_take]
      by_cases hj : j < z.size
      · rw [if_pos hj, List.getElem?_drop, Array.getElem?_toList, Array.getElem?_toList, Array.getElem?_map, Array.getElem?_range, if_pos (by omega)]
        have : (i * z.size + j) % z.size = j := by rw [Nat.mul_comm, Nat.mul_add_mod, Nat.mod_eq_of_lt hj]
        simp [this, hj]
      · rw [if_neg hj]; simp; omega
    rw [e]; exact hp
  · cases hq

theorem snd_buildS {qq : Bool} (r : RelAt C n F s a W hdr ow) (hid : ¬ F id) {t e : TypeId} {m : Nat} {xs : Array (Nat × Operand)} {ps : List (Nat × Opd)} {z l : List PV} {H' : Heap} (ho : o.op = .buildSlice t m xs) (hd : P.underlying t = some (.slice e)) (hz : zeroP P e = some z)
    (hk : knownT P e = true) (hzl : z.length = szT P e) (hsz : szT P e ≠ 0) (hbig : m * szT P e ≤ 16777216) (ha : aggT P e = true ∨ z.length = 1) (hm : mapO (fun (i, x) => (opd P e x).map fun x => (i, x)) xs.toList = some ps)
    (hb : buildL qq s.env (szT P e) (List.replicate m (zOf (aggT P e) z)) s.heap ps = some (l, H')) : Snd P C n F s a W id o (.h id) ((id, ⟨false, szT P e, l⟩) :: H') := by
  obtain ⟨i, v, hi, hv, g1, g2, g3⟩ := zeroP_ok (W := W) (ok := OK C W s.heap ow) hz
  obtain ⟨k1, k2⟩ := zOf_ok g1 g2 ha
  have hvs : v.cells.size = szT P e := by omega
  have hrow := zero_row k1 (by rw [hvs]; exact hsz) m
  rw [hvs] at hrow
  obtain ⟨cells, ow', q1, q2, q3, q4⟩ := buildL_ok (sz := szT P e) (by
    intro i x j y h
    simp only [Option.map_eq_some_iff, Prod.mk.injEq] at h
    obtain ⟨y', hy, rfl, rfl⟩ := h
    exact ⟨rfl, e, hy⟩) xs.toList ps s ow _ l _ H' r hm hrow hb
  have hlen : cells.toList.length = l.length * szT P e := q3.length
  have hlm : l.length = m := by rw [q4]; simp
  have r2 := q2.alloc (id := id) (sz := szT P e) (cap := l.length) (l := l) (c := cells.toList) hid e hsz (by omega) (Nat.le_refl _) (by
    rw [List.take_of_length_le (by omega)]; exact q3)
  refine ⟨.slice (some ⟨W.heap.size, 0, none⟩) l.length l.length, _, _, _, .inl ?_, r2, ?_, fun j => men_h j⟩
  · have hrun : (Instr.buildSlice t m (xs.map fun q => (q.1, a.eval q.2))).run P W = .ok (.slice (some ⟨W.heap.size, 0, none⟩) l.length l.length) (W.alloc (.cells cells.toList.toArray e)) := by
      have hb' : ¬ (16777216 < m * szT P e) := by omega
      have hpl : (xs.map fun q => (q.1, a.eval q.2)).toList = xs.toList.map fun q => (q.1, a.eval q.2) := by simp
      by_cases hm0 : m = 0
      · subst hm0
        have hl0 : l.length = 0 := hlm
        have q1' : Instr.fill (fun i => some (i * szT P e, szT P e)) #[] (xs.toList.map fun q => (q.1, a.eval q.2)) = some cells := by rw [Nat.zero_mul, range0] at q1; exact q1
        simp only [Instr.buildSlice, Sem.run_bind, run_underlying hd, Result.andThen_ok, run_sizeOf hk]
        simp [newRow, hl0, range0, q1']
      · have hnz : m * szT P e ≠ 0 := Nat.mul_ne_zero hm0 hsz
        simp only [Instr.buildSlice, Sem.run_bind, run_underlying hd, Result.andThen_ok, run_sizeOf hk]
        simp [hb', hnz, run_zero hi hv, hvs, newRow, hlm, q1]
    simp only [execOp, ho]
    exact run_value hrun
  · simp only [RepA]; intro e' _; simp [upd]

theorem wrap_small {x : Int} (h0 : 0 ≤ x) (h : x ≤ 9223372036854775807) : IntKind.i64.wrap x = x := by
  simp only [IntKind.wrap, IntKind.bits, IntKind.signed]
  have : x % 18446744073709551616 = x := Int.emod_eq_of_lt h0 (by omega)
  simp [this]
  omega

theorem snd_mkS (r : RelAt C n F s a W hdr ow) (hid : ¬ F id) {t e : TypeId} {i : TypeInfo} {x y : Operand} {x' y' : Opd} {t1 t2 : TypeId} {m c : Int} {z : List PV} (ho : o.op = .makeSlice t x y) (hd : P.underlying t = some (.slice e)) (hz : zeroP P e = some z)
    (hi : P.info? e = some i) (hk : knownT P e = true) (hzl : z.length = szT P e) (hsz : szT P e ≠ 0) (ha : aggT P e = true ∨ z.length = 1) (hx : opd P t1 x = some x') (hy : opd P t2 y = some y')
    (hxi : (ev s.env x').bind asI = some m) (hyi : (ev s.env y').bind asI = some c) (h0 : 0 ≤ m) (h1 : m ≤ c) (h2 : c * i.bytes ≤ 70368744177664) (h3 : c ≤ 1000000000000) :
    Snd P C n F s a W id o (.h id) ((id, ⟨false, szT P e, List.replicate m.toNat (zOf (aggT P e) z)⟩) :: s.heap) := by
  obtain ⟨i', v, hi', hv, g1, g2, g3⟩ := zeroP_ok (W := W) (ok := OK C W s.heap ow) hz
  obtain ⟨k1, k2⟩ := zOf_ok g1 g2 ha
  obtain ⟨kx, hx⟩ := opdI_ok r hx hxi
  obtain ⟨ky, hy⟩ := opdI_ok r hy hyi
  have hvs : v.cells.size = szT P e := by omega
  obtain ⟨cn, rfl⟩ := Int.eq_ofNat_of_zero_le (show 0 ≤ c by omega)
  obtain ⟨mn, rfl⟩ := Int.eq_ofNat_of_zero_le h0
  have hrow := zero_row k1 (by rw [hvs]; exact hsz) cn
  rw [hvs] at hrow
  have hlen := hrow.length
  rw [List.length_replicate] at hlen
  have hmc : mn ≤ cn := by omega
  have htk := hrow.take mn
  rw [List.take_replicate, Nat.min_eq_left hmc] at htk
  have r2 := r.alloc (id := id) (sz := szT P e) (cap := cn) (l := List.replicate mn (zOf (aggT P e) z)) (c := ((Array.range (cn * szT P e)).map (v.cells[· % szT P e]!)).toList) hid e hsz (by rw [hlen]; omega) (by simpa using hmc)
    (by rw [List.length_replicate]; exact htk)
  rw [Array.toArray_toList, List.length_replicate] at r2
  rw [Int.toNat_natCast]
  refine ⟨.slice (some ⟨W.heap.size, 0, none⟩) mn cn, _, _, _, .inl ?_, r2, ?_, fun j => men_h j⟩
  · have hw1 := wrap_small (x := (mn : Int)) (by omega) (by omega)
    have hw2 := wrap_small (x := (cn : Int)) (by omega) (by omega)
    have hbytes : ¬ (281474976710656 < i.bytes * (cn : Int)) := by rw [Int.mul_comm]; omega
    have hcond : (decide ((cn : Int) < 0) || decide ((i.bytes : Int) * cn > 2 ^ 48) || decide ((mn : Int) < 0) || decide ((mn : Int) > cn)) = false := by
      simp; omega
    have hrun : (Instr.makeSlice t (.int kx mn) (.int ky cn)).run P W = .ok (.slice (some ⟨W.heap.size, 0, none⟩) mn cn) (W.alloc (.cells ((Array.range (cn * szT P e)).map (v.cells[· % szT P e]!)) e)) := by
      by_cases hc0 : cn = 0
      · have hm0 : mn = 0 := by omega
        subst hc0; subst hm0
        have hw0 : IntKind.i64.wrap 0 = 0 := by decide
        simp [Instr.makeSlice, run_underlying hd, asInt, asIntOf, typeInfo, hi, run_sizeOf hk, hw0, newRow, range0]
      · have hc1 : ¬ ((cn : Int) < 0) := by omega
        have hc2 : ¬ ((mn : Int) < 0) := by omega
        have hc3 : ¬ ((cn : Int) < mn) := by omega
        have hnz : cn * szT P e ≠ 0 := Nat.mul_ne_zero hc0 hsz
        simp [Instr.makeSlice, run_underlying hd, asInt, asIntOf, typeInfo, hi, run_sizeOf hk, hw1, hw2, hbytes, hc1, hc2, hc3, hnz, run_zero hi' hv, hvs, newRow]
    simp only [execOp, ho, hx, hy]
    exact run_value hrun
  · simp only [RepA]; intro e' _; simp [upd]

/-- A cut of a row. -/
def cutV (sz i j : Nat) : Value → Value
  | .slice a _ cap => .slice (if cap = i then a else a.map (·.add (i * sz))) (j - i) (cap - i)
  | v => v

theorem cut_ok {ok : Nat → Prop} {sz i j : Nat} {l : List PV} {v : Value} (r : RepC W ok (.sl sz l) [v]) (hij : i ≤ j) (hj : j ≤ l.length) : RepC W ok (.sl sz ((l.take j).drop i)) [cutV sz i j v] := by
  rcases r.slInv with ⟨rfl, ao, h⟩ | ⟨b, off, cap, c, h, h2, h3, h4, h5, h6⟩
  · simp at h; subst h
    simp at hj; subst hj
    have : i = 0 := by omega
    subst this
    simpa [cutV] using RepC.nil
  · simp at h; subst h
    have hlen : ((l.take j).drop i).length = j - i := by simp; omega
    by_cases hc : cap = i
    · have e : (l.take j).drop i = [] := List.eq_nil_of_length_eq_zero (by omega)
      rw [e]
      simp only [cutV, if_pos hc]
      rw [show j - i = 0 by omega, show cap - i = 0 by omega]
      exact .nil
    · simp only [cutV, if_neg hc, Option.map_some, add_lit]
      rw [← hlen]
      have hms : cap * sz = i * sz + (cap - i) * sz := by rw [← Nat.add_mul]; congr 1; omega
      refine .sl h2 h3 (by omega) (by omega) ?_
      have q := (h6.take j).drop i
      have e : (((c.drop off).take (l.length * sz)).take (j * sz)).drop (i * sz) = (c.drop (off + i * sz)).take (((l.take j).drop i).length * sz) := by
        have hjl : j * sz ≤ l.length * sz := Nat.mul_le_mul_right _ hj
        rw [List.take_take, Nat.min_eq_left hjl, List.drop_take, List.drop_drop, hlen, Nat.sub_mul]
      rw [e] at q; exact q

theorem run_cut (r : RelAt C n F s a W hdr ow) {x : Operand} {lo hi : Option Operand} {lo' hi' : Option Opd} {t e : TypeId} {i j : Nat} {ao : Option Addr} {ln cap : Nat} (ho : o.op = .slice t x lo hi none) (hd : P.underlying t = some (.slice e)) (hk : knownT P e = true)
    (hlo : optO P lo = some lo') (hhi : optO P hi = some hi') (hb : bnds s.env ln lo' hi' = some (i, j)) (hc : ln ≤ cap) (hx : a.eval x = .slice ao ln cap) :
    (execOp a.eval o).run P W = .ok (.value (cutV (szT P e) i j (.slice ao ln cap))) W ∧ i ≤ j ∧ j ≤ ln := by
  obtain ⟨h1, h2, h3⟩ := run_bnds (isS := true) r hlo hhi hc hb
  refine ⟨?_, h2, h3⟩
  simp [execOp, ho, Instr.sliceAt, Instr.slice, run_underlying hd, hx, h1, run_sizeOf hk, cutV]

theorem slInvV' {ok : Nat → Prop} {sz : Nat} {l : List PV} {v : Value} (r : RepC W ok (.sl sz l) [v]) : ∃ ao cap, v = .slice ao l.length cap ∧ l.length ≤ cap := by
  rcases r.slInv with ⟨h1, ao, h2⟩ | ⟨b, off, cap, c, h2, _, _, _, h3, _⟩
  · simp at h2; exact ⟨ao, 0, by rw [h2, h1]; rfl, by rw [h1]; simp⟩
  · simp at h2; exact ⟨_, cap, h2, h3⟩

theorem snd_slc (r : RelAt C n F s a W hdr ow) {x : Operand} {x' : Opd} {lo hi : Option Operand} {lo' hi' : Option Opd} {t e t1 : TypeId} {i j : Nat} {u : AV} {l : List PV} {p : PV} {H' : Heap} (ho : o.op = .slice t x lo hi none) (hd : P.underlying t = some (.slice e)) (hk : knownT P e = true)
    (hx : opd P t1 x = some x') (hlo : optO P lo = some lo') (hhi : optO P hi = some hi') (hu : ev s.env x' = some u) (hr : rdRow s.heap u = some (szT P e, l)) (hb : bnds s.env l.length lo' hi' = some (i, j)) {qq : Bool} (hp : tov qq s.heap u = some (p, H')) :
    Snd P C n F s a W id o (.v (.sl (szT P e) ((l.take j).drop i))) H' := by
  have hux := (opd_ok r hx hu).1
  obtain ⟨ow1, r1, hpv, _, _⟩ := tov_ok r hux hp
  have hpl : p = .sl (szT P e) l := by
    cases u <;> simp only [rdRow, tov] at hr hp <;> try (cases hr; done)
    · rename_i q
      cases q <;> simp only [Option.some.injEq, Prod.mk.injEq] at hr hp <;> try (cases hr; done)
      rw [← hp.1, hr.1, hr.2]
    · rename_i k
      cases hk : find s.heap k with
      | none => rw [hk] at hr; cases hr
      | some e =>
        rw [hk] at hr hp
        simp only at hr hp
        by_cases hz : e.sz = 0
        · rw [if_pos hz] at hr; cases hr
        rw [if_neg hz] at hr hp
        simp only [Option.some.injEq, Prod.mk.injEq] at hr
        by_cases hf : e.fro = true
        · rw [if_pos hf] at hp; simp only [Option.some.injEq, Prod.mk.injEq] at hp; rw [← hp.1, hr.1, hr.2]
        · rw [if_neg hf] at hp
          by_cases hq : qq = true
          · rw [if_pos hq] at hp; cases hp
          · rw [if_neg hq] at hp; simp only [Option.some.injEq, Prod.mk.injEq] at hp; rw [← hp.1, hr.1, hr.2]
  subst hpl
  obtain ⟨ao, cap, hv, hc⟩ := slInvV' hpv.slInv
  obtain ⟨q1, q2, q3⟩ := run_cut r1 ho hd hk hlo hhi hb hc hv
  refine ⟨_, W, hdr, ow1, .inl q1, r1.monoF fun i h => .inl h, ?_, by simp [AV.men]⟩
  simp only [RepA]
  rw [← hv]
  exact RepV.sl (cut_ok hpv.slInv q2 q3)

theorem snd_slcO (r : RelAt C n F s a W hdr ow) (hid : ¬ F id) {x : Operand} {x' : Opd} {lo hi : Option Operand} {lo' hi' : Option Opd} {t e t1 : TypeId} {i j k : Nat} {en : Ent} (ho : o.op = .slice t x lo hi none) (hd : P.underlying t = some (.slice e)) (hk : knownT P e = true)
    (hx : opd P t1 x = some x') (hlo : optO P lo = some lo') (hhi : optO P hi = some hi') (hu : ev s.env x' = some (.h k)) (he : find s.heap k = some en) (hes : en.sz = szT P e) (hf : en.fro = false) (hb : bnds s.env en.l.length lo' hi' = some (i, j)) (hz : en.sz ≠ 0) :
    Snd P C n F s a W id o (.h id) ((id, ⟨false, szT P e, (en.l.take j).drop i⟩) :: strike s.heap k) := by
  have hz' : szT P e ≠ 0 := by rw [← hes]; exact hz
  have hux := (opd_ok r hx hu).1
  simp only [RepA] at hux
  have hux := hux en he
  rcases r.getOwn he hf hz with ⟨g1, g2, ao, g3⟩ | ⟨b, off, cap, c, g1, g2, g3, g4, g5, g6⟩
  · rw [g3] at hux
    obtain ⟨q1, q2, q3⟩ := run_cut r (ln := en.l.length) (cap := 0) ho hd hk hlo hhi hb (by rw [g1]; simp) (by rw [hux, g1]; rfl)
    rw [g1] at q3 q1
    simp at q3; subst q3
    have : i = 0 := by omega
    subst this
    refine ⟨_, W, _, _, .inl q1, r.turn (e' := ⟨false, szT P e, (en.l.take 0).drop 0⟩) (x' := .slice ao 0 0) he hid (fun _ _ => rfl) rfl rfl rfl (OutLe.refl _) (.inr (.inl ⟨by simp, g2, ao, rfl⟩)) hz', ?_, fun j => men_h j⟩
    simp only [RepA]; intro e' _; simp [upd, cutV]
  · rw [g2] at hux
    obtain ⟨q1, q2, q3⟩ := run_cut r ho hd hk hlo hhi hb g5 hux
    have hlen : ((en.l.take j).drop i).length = j - i := by simp; omega
    rw [hes] at g4 g6
    refine ⟨_, W, _, _, .inl q1, r.turn (e' := ⟨false, szT P e, (en.l.take j).drop i⟩) (x' := cutV (szT P e) i j (.slice (some ⟨b, off, none⟩) en.l.length cap)) he hid (fun _ _ => rfl) rfl rfl rfl (OutLe.refl _) ?_ hz', ?_, fun j => men_h j⟩
    · have hms : cap * szT P e = i * szT P e + (cap - i) * szT P e := by rw [← Nat.add_mul]; congr 1; omega
      refine .inr (.inr ⟨rfl, b, (if cap = i then off else off + i * szT P e), cap - i, c, g1, ?_, g3, ?_, by simp only [hlen]; omega, ?_⟩)
      · simp only [cutV, hlen]
        split <;> simp [add_lit]
      · split <;> simp only <;> omega
      · by_cases hc : cap = i
        · have e : (en.l.take j).drop i = [] := List.eq_nil_of_length_eq_zero (by omega)
          simp only [e]; simpa using RepL.nil
        · simp only [if_neg hc]
          have q := (g6.take j).drop i
          have e : (((c.drop off).take (en.l.length * szT P e)).take (j * szT P e)).drop (i * szT P e) = (c.drop (off + i * szT P e)).take (((en.l.take j).drop i).length * szT P e) := by
            have hjl : j * szT P e ≤ en.l.length * szT P e := Nat.mul_le_mul_right _ q3
            rw [List.take_take, Nat.min_eq_left hjl, List.drop_take, List.drop_drop, hlen, Nat.sub_mul]
          rw [e] at q; exact q
    · simp only [RepA]; intro e' _; simp [upd]

theorem snd_slcP (r : RelAt C n F s a W hdr ow) {x : Operand} {x' : Opd} {lo hi : Option Operand} {lo' hi' : Option Opd} {t e t1 : TypeId} {i j k : Nat} {en : Ent} (ho : o.op = .slice t x lo hi none) (hd : P.underlying t = some (.slice e)) (hk : knownT P e = true)
    (hx : opd P t1 x = some x') (hlo : optO P lo = some lo') (hhi : optO P hi = some hi') (hu : ev s.env x' = some (.h k)) (he : find s.heap k = some en) (hes : en.sz = szT P e) (hz : szT P e ≠ 0) (hf : en.fro = false) (hb : bnds s.env en.l.length lo' hi' = some (i, j)) (hi : i < en.l.length) :
    Snd P C n F s a W id o (.sub k i (j - i)) s.heap := by
  obtain ⟨hux, hm⟩ := opd_ok r hx hu
  simp only [RepA] at hux
  have hux := hux en he
  rcases r.getOwn he hf (by rw [hes]; exact hz) with ⟨g1, _⟩ | ⟨b, off, cap, c, g1, g2, g3, g4, g5, g6⟩
  · rw [g1] at hi; simp at hi
  · rw [g2] at hux
    obtain ⟨q1, q2, q3⟩ := run_cut r ho hd hk hlo hhi hb g5 hux
    refine ⟨_, W, hdr, ow, .inl q1, r.monoF fun i h => .inl h, ?_, fun i hi => .inl (hm i (by simpa [AV.men] using hi))⟩
    simp only [RepA]
    intro e' he'
    rw [he] at he'; cases he'
    refine ⟨b, off, _, cap, g2, ?_⟩
    simp only [cutV]
    rw [if_neg (by omega), Ent.w_of (by rw [hes]; exact hz), hes]
    simp [add_lit]

theorem snd_clr (r : RelAt C n F s a W hdr ow) {as : Array Operand} {ts : Array TypeId} {x : Operand} {x' : Opd} {t e : TypeId} {k lo m : Nat} {en : Ent} {z : List PV} (ho : o.op = .call { callee := .builtin .clear, args := as, argTypes := ts })
    (ha : as.toList = [x]) (ht : ts.toList = [t]) (hd : P.underlying t = some (.slice e)) (hzp : zeroP P e = some z) (hzl : z.length = szT P e) (hsz : szT P e ≠ 0) (hag : aggT P e = true ∨ z.length = 1)
    (hx : opd P t x = some x') (hu : ev s.env x' = some (.sub k lo m)) (he : find s.heap k = some en) (hf : en.fro = false) (hes : en.sz = szT P e) (hm0 : m ≠ 0) (hlm : lo + m ≤ en.l.length) :
    Snd P C n F s a W id o .u (setIn s.heap k { en with l := en.l.take lo ++ List.replicate m (zOf (aggT P e) z) ++ en.l.drop (lo + m) }) := by
  obtain rfl : as = #[x] := Array.toList_inj.1 (by simpa using ha)
  obtain rfl : ts = #[t] := Array.toList_inj.1 (by simpa using ht)
  have hux := (opd_ok r hx hu).1
  simp only [RepA] at hux
  obtain ⟨b', o', m', c', hx1, hx2⟩ := hux en he
  obtain ⟨i', v, hi', hv, g1, g2, g3⟩ := zeroP_ok (W := W) (ok := OK C W s.heap ow) hzp
  obtain ⟨k1, k2⟩ := zOf_ok (agg := aggT P e) g1 g2 hag
  have hvs : v.cells.size = en.sz := by omega
  have hez : en.sz ≠ 0 := by omega
  have hrow := zero_row k1 (by omega) m
  have hone : ∀ u ∈ ((Array.range (m * v.cells.size)).map (v.cells[· % v.cells.size]!)).toList, u.oneCell' = true := by
    intro u hu
    rw [Array.toList_map] at hu
    obtain ⟨q, _, rfl⟩ := List.mem_map.1 hu
    have hlt : q % v.cells.size < v.cells.size := Nat.mod_lt _ (by omega)
    refine g1.oneCell g2 _ ?_
    rw [getElem!_pos v.cells _ hlt]
    exact Array.mem_toList_iff.2 (Array.getElem_mem hlt)
  have hclr : ∀ a' c2, (Builtin.clear_ #[t] o.type #[.slice (some a') m c2]).run P W = ((storeCells a' ((Array.range (m * v.cells.size)).map (v.cells[· % v.cells.size]!)).toList 0).run P W).andThen fun _ W' => .ok (.tuple #[]) W' := by
    intro a' c2
    obtain ⟨m2, rfl⟩ : ∃ m2, m = m2 + 1 := ⟨m - 1, by omega⟩
    simp [Builtin.clear_, run_underlying hd, run_zero hi' hv, Builtin.zeroCells]
  rw [hvs] at hrow hone hclr
  generalize ((Array.range (m * en.sz)).map (v.cells[· % en.sz]!)).toList = news at hrow hone hclr
  have hnl := hrow.length
  rw [List.length_replicate] at hnl
  rcases r.getOwn he hf hez with ⟨h1, _⟩ | ⟨b, off, cap, c, h1, h2, h3, h4, h5, h6⟩
  · rw [h1] at hlm; simp at hlm; omega
  · rw [hx1] at h2
    simp only [Value.slice.injEq, Option.some.injEq, Addr.mk.injEq, and_true] at h2
    obtain ⟨⟨rfl, rfl⟩, rfl, rfl⟩ := h2
    rw [Ent.w_of hez] at hx2
    have hL : lo * en.sz + m * en.sz ≤ en.l.length * en.sz := by rw [← Nat.add_mul]; exact Nat.mul_le_mul_right _ hlm
    have hcap := Nat.mul_le_mul_right en.sz h5
    have hst := run_storeCells_cells (P := P) b' (o' + lo * en.sz) news 0 W
      (by intro j hj; rw [cell_row (rowO_row h3), List.getElem?_eq_getElem (by omega)]; rfl)
      (by intro j hj; exact rowO_frozen h3 _) hone
    rw [Nat.add_zero] at hst
    obtain ⟨q1, q2, q3, q4, q5, q6⟩ := setCells_row b' news (o' + lo * en.sz) c W h3 (by omega)
    have hlen : (en.l.take lo ++ List.replicate m (zOf (aggT P e) z) ++ en.l.drop (lo + m)).length = en.l.length := by simp; omega
    have r2 := r.write (id := k) (e := en) he (W' := W.setCells b' (o' + lo * en.sz) news) (b := b') (off := o') (cap := c') (l' := en.l.take lo ++ List.replicate m (zOf (aggT P e) z) ++ en.l.drop (lo + m)) hez h1 hx1
      hlen hf h5 q1 q2 q3 q4 q5 q6 (by rw [lay_length (by omega)]; exact h4) (by
        rw [hlen]
        have hb : o' + lo * en.sz - o' = lo * en.sz := by omega
        rw [drop_lay (by omega) (by omega), hb, take_lay (by simp only [List.length_take, List.length_drop]; omega) (by omega)]
        have := ((h6.take lo).append hrow).append (h6.drop (lo + m))
        unfold lay
        rw [hnl, ← Nat.add_mul]
        exact this)
    refine ⟨.tuple #[], _, _, _, .inl ?_, r2.monoF fun i h => .inl h, by simp [RepA], by simp [AV.men]⟩
    simp [execOp, ho, resolve, invoke, builtin, hx2, hclr, hst]

theorem snd_sl0 (r : RelAt C n F s a W hdr ow) (hid : ¬ F id) {x : Operand} {x' : Opd} {t e t1 : TypeId} {k1 k2 : IntKind} {u : AV} {sz : Nat} {l : List PV} (ho : o.op = .slice t x none (some (.const (.int k1 0))) (some (.const (.int k2 0)))) (hd : P.underlying t = some (.slice e)) (hk : knownT P e = true)
    (hx : opd P t1 x = some x') (hu : ev s.env x' = some u) (hr : rdRow s.heap u = some (sz, l)) : Snd P C n F s a W id o (.h id) ((id, ⟨false, szT P e, []⟩) :: s.heap) := by
  obtain ⟨ao, cap, hv, hc⟩ := slInvV' (rdRow_ok r (opd_ok r hx hu).1 hr)
  refine ⟨.slice ao 0 0, W, _, _, .inl ?_, r.allocNil hid (szT P e) ao, ?_, fun j => men_h j⟩
  · simp [execOp, ho, Instr.sliceAt, Instr.slice, run_underlying hd, hv, show a.eval (.const (.int k1 0)) = .int k1 0 from rfl, show a.eval (.const (.int k2 0)) = .int k2 0 from rfl, Instr.sliceBounds, Instr.sliceBound, asIntOf, run_sizeOf hk]
  · simp only [RepA]; intro e' _; simp [upd]

theorem knownT_eq {f : Field} (h : knownT P f.type = true) (d : TypeDesc) (hd : P.underlying f.type = some d) (hd2 : ∀ fs, d ≠ .struct fs) (hd3 : ∀ n e, d ≠ .array n e) : aggT P f.type = false := by
  unfold aggT
  rw [hd]
  split
  · rename_i fs h; cases h; exact (hd2 _ rfl).elim
  · rename_i n e h; cases h; exact (hd3 _ _ rfl).elim
  · rfl

theorem eqFields_ok {ok : Nat → Prop} (d : Nat) (xs ys : Array Value) : ∀ (fs : List Field) (k : Nat) (ks : List Bool) (cs ds : List PV) (rb : Bool), fs.map (·.offset) = List.range' k fs.length → mapO (eqK1 P) fs = some ks →
    RepL W ok 1 cs (xs.toList.drop k) → RepL W ok 1 ds (ys.toList.drop k) → eqCells ks cs ds = some rb → (Op.eqFields (d + 1) xs ys fs).run P W = .ok rb W
  | [], k, ks, cs, ds, rb, _, hk, hc, hd, h => by
    simp [mapO] at hk; subst hk
    cases cs <;> cases ds <;> simp [eqCells] at h
    subst h; simp [Op.eqFields]
  | f :: fs, k, ks, cs, ds, rb, ho, hk, hc, hd, h => by
    simp only [mapO] at hk
    split at hk
    · rename_i b bs hb hbs
      cases hk
      unfold eqK1 at hb
      split at hb
      · rename_i hcond
        obtain ⟨hn, hkn, hsz⟩ := hcond
        simp only [List.map_cons, List.length_cons, List.range'_succ, List.cons.injEq] at ho
        obtain ⟨ho1, ho2⟩ := ho
        have hag : aggT P f.type = false := by
          split at hb
          · rename_i kk hk; exact knownT_eq hkn _ hk (by simp) (by simp)
          · rename_i hk; exact knownT_eq hkn _ hk (by simp) (by simp)
          · cases hb
        cases cs with
        | nil => cases b <;> simp [eqCells] at h
        | cons p cs =>
          cases ds with
          | nil => cases b <;> simp [eqCells] at h
          | cons q ds =>
            have hcx : ∃ v, xs[k]? = some v ∧ RepC W ok p [v] ∧ RepL W ok 1 cs (xs.toList.drop (k + 1)) := by
              generalize e : xs.toList.drop k = L at hc
              cases hc with
              | cons g1 g2 g3 =>
                rename_i vs ws
                obtain ⟨v, rfl⟩ := List.length_eq_one_iff.1 g1
                refine ⟨v, ?_, g2, ?_⟩
                · have := congrArg (fun l => l[0]?) e
                  simpa using this
                · have : xs.toList.drop (k + 1) = ws := by rw [← List.drop_drop, e]; rfl
                  rw [this]; exact g3
            have hcy : ∃ v, ys[k]? = some v ∧ RepC W ok q [v] ∧ RepL W ok 1 ds (ys.toList.drop (k + 1)) := by
              generalize e : ys.toList.drop k = L at hd
              cases hd with
              | cons g1 g2 g3 =>
                rename_i vs ws
                obtain ⟨v, rfl⟩ := List.length_eq_one_iff.1 g1
                refine ⟨v, ?_, g2, ?_⟩
                · have := congrArg (fun l => l[0]?) e
                  simpa using this
                · have : ys.toList.drop (k + 1) = ws := by rw [← List.drop_drop, e]; rfl
                  rw [this]; exact g3
            obtain ⟨v, hx1, hx2, hx3⟩ := hcx
            obtain ⟨w, hy1, hy2, hy3⟩ := hcy
            have hpx : (part f.type xs f.offset).run P W = .ok v W := by rw [run_part hkn, hag, ho1, hx1]; rfl
            have hpy : (part f.type ys f.offset).run P W = .ok w W := by rw [run_part hkn, hag, ho1, hy1]; rfl
            have fin : ∀ (bb rest : Bool), (Op.equalIn (d + 1) f.type v w).run P W = .ok bb W → eqCells bs cs ds = some rest → rb = (bb && rest) → (Op.eqFields (d + 1) xs ys (f :: fs)).run P W = .ok rb W := by
              intro bb rest h1 h2 h3
              have h4 := eqFields_ok d xs ys fs (k + 1) bs cs ds rest ho2 hbs hx3 hy3 h2
              subst h3
              cases bb <;> simp [Op.eqFields, hn, hpx, hpy, h1, h4]
            cases b with
            | true =>
              have hty : ∃ kk, P.underlying f.type = some (.int kk) := by
                split at hb
                · rename_i kk hk; exact ⟨kk, hk⟩
                · cases hb
                · cases hb
              obtain ⟨kk, hty⟩ := hty
              unfold eqCells at h
              split at h
              · cases ‹true :: bs = []›
              · rename_i heq1 heq2 heq3
                injection heq1 with e1 e2
                injection heq2 with e3 e4
                injection heq3 with e5 e6
                subst e2 e3 e4 e5 e6
                have q1 := (RepV.ofC hx2 rfl).wInv.1
                have q2 := (RepV.ofC hy2 rfl).wInv.1
                subst q1 q2
                split at h
                · rename_i hkk
                  subst hkk
                  obtain ⟨rest, h2, h3⟩ := Option.map_eq_some_iff.1 h
                  exact fin _ rest (run_equalIn_int W d f.type _ kk _ _ hty) h2 (by rw [← h3]; rfl)
                · cases h
              · rename_i heq1 _ _; injection heq1 with e1; cases e1
              · cases h
            | false =>
              have hty : P.underlying f.type = some .string := by
                split at hb
                · cases hb
                · rename_i hk; exact hk
                · cases hb
              unfold eqCells at h
              split at h
              · cases ‹false :: bs = []›
              · rename_i heq1 _ _; injection heq1 with e1; cases e1
              · rename_i heq1 heq2 heq3
                injection heq1 with e1 e2
                injection heq2 with e3 e4
                injection heq3 with e5 e6
                subst e2 e3 e4 e5 e6
                have q1 := (RepV.ofC hx2 rfl).wInv.1
                have q2 := (RepV.ofC hy2 rfl).wInv.1
                subst q1 q2
                obtain ⟨rest, h2, h3⟩ := Option.map_eq_some_iff.1 h
                exact fin _ rest (run_equalIn_string W d f.type _ _ hty) h2 (by rw [← h3, eq_toList])
              · cases h
      · cases hb
    · cases hk

theorem snd_eqS (r : RelAt C n F s a W hdr ow) {ng : Bool} {x y : Operand} {x' y' : Opd} {t t' : TypeId} {fs : Array Field} {ks : List Bool} {cs ds : List PV} {rb : Bool} (ho : o.op = .binOp (if ng = true then .neq else .eql) t x y t') (ht : P.underlying t = some (.struct fs)) (hf : eqF P fs = some ks) (hst : P.stoodInHeld t = false) (hgt : P.eqGuardType P.depth t = false)
    (hx : opd P t x = some x') (hy : opd P t y = some y') (hu : ev s.env x' = some (.v (.st cs))) (hv : ev s.env y' = some (.v (.st ds))) (he : eqCells ks cs ds = some rb) : Snd P C n F s a W id o (.v (.w (.bool (if ng = true then !rb else rb)))) s.heap := by
  have hux := (opd_ok r hx hu).1
  have hvy := (opd_ok r hy hv).1
  simp only [RepA] at hux hvy
  obtain ⟨vs, e1, r1, _⟩ := hux.stInv
  obtain ⟨ws, e2, r2, _⟩ := hvy.stInv
  unfold eqF at hf
  split at hf
  · rename_i hoff
    have hfo : P.fieldsOf t = fs := by unfold Program.fieldsOf; rw [ht]
    have hrun : (Op.equal t (.agg vs.toArray) (.agg ws.toArray) : Sem Bool).run P W = .ok rb W := by
      unfold Op.equal
      have h1 := run_equalIn_struct (P := P) W 9999 t vs.toArray ws.toArray (by rw [hfo]; exact ht) hst
      rw [hfo] at h1
      have h2 := eqFields_ok (P := P) (W := W) 9998 vs.toArray ws.toArray fs.toList 0 ks cs ds rb hoff hf (by simpa using r1) (by simpa using r2) he
      exact h1.trans h2
    refine Snd.scal r ?_ rfl
    simp only [execOp, ho, e1, e2]
    cases ng
    · simp [eqGuard, binOp, hrun, hgt]
    · simp [eqGuard, binOp, hrun, hgt]
  · cases hf

theorem eqItems_ok {ok : Nat → Prop} (d : Nat) {e : TypeId} {kk : IntKind} (hty : P.underlying e = some (.int kk)) (hkn : knownT P e = true) (xs ys : Array Value) : ∀ (m k : Nat) (cs ds : List PV) (rb : Bool),
    RepL W ok 1 cs (xs.toList.drop k) → RepL W ok 1 ds (ys.toList.drop k) → eqCells (List.replicate m true) cs ds = some rb → (Op.eqItems (d + 1) e 1 xs ys (List.range' k m)).run P W = .ok rb W
  | 0, k, cs, ds, rb, hc, hd, h => by
    cases cs <;> cases ds <;> simp [eqCells] at h
    subst h; simp [Op.eqItems]
  | m + 1, k, cs, ds, rb, hc, hd, h => by
    have hag : aggT P e = false := by unfold aggT; rw [hty]
    rw [List.replicate_succ] at h
    cases cs with
    | nil => simp [eqCells] at h
    | cons p cs =>
      cases ds with
      | nil => simp [eqCells] at h
      | cons q ds =>
        have hcx : ∃ v, xs[k]? = some v ∧ RepC W ok p [v] ∧ RepL W ok 1 cs (xs.toList.drop (k + 1)) := by
          generalize e : xs.toList.drop k = L at hc
          cases hc with
          | cons g1 g2 g3 =>
            rename_i vs ws
            obtain ⟨v, rfl⟩ := List.length_eq_one_iff.1 g1
            refine ⟨v, ?_, g2, ?_⟩
            · have := congrArg (fun l => l[0]?) e
              simpa using this
            · have : xs.toList.drop (k + 1) = ws := by rw [← List.drop_drop, e]; rfl
              rw [this]; exact g3
        have hcy : ∃ v, ys[k]? = some v ∧ RepC W ok q [v] ∧ RepL W ok 1 ds (ys.toList.drop (k + 1)) := by
          generalize e : ys.toList.drop k = L at hd
          cases hd with
          | cons g1 g2 g3 =>
            rename_i vs ws
            obtain ⟨v, rfl⟩ := List.length_eq_one_iff.1 g1
            refine ⟨v, ?_, g2, ?_⟩
            · have := congrArg (fun l => l[0]?) e
              simpa using this
            · have : ys.toList.drop (k + 1) = ws := by rw [← List.drop_drop, e]; rfl
              rw [this]; exact g3
        obtain ⟨v, hx1, hx2, hx3⟩ := hcx
        obtain ⟨w, hy1, hy2, hy3⟩ := hcy
        have hpx : (part e xs (k * 1)).run P W = .ok v W := by rw [run_part hkn, hag, Nat.mul_one, hx1]; rfl
        have hpy : (part e ys (k * 1)).run P W = .ok w W := by rw [run_part hkn, hag, Nat.mul_one, hy1]; rfl
        have fin : ∀ (bb rest : Bool), (Op.equalIn (d + 1) e v w).run P W = .ok bb W → eqCells (List.replicate m true) cs ds = some rest → rb = (bb && rest) → (Op.eqItems (d + 1) e 1 xs ys (List.range' k (m + 1))).run P W = .ok rb W := by
          intro bb rest h1 h2 h3
          have h4 := eqItems_ok d hty hkn xs ys m (k + 1) cs ds rest hx3 hy3 h2
          subst h3
          rw [List.range'_succ]
          cases bb <;> simp only [Op.eqItems, Sem.run_bind, hpx, hpy, h1, Result.andThen_ok] <;> simp [h4]
        unfold eqCells at h
        split at h
        · cases ‹true :: List.replicate m true = []›
        · rename_i heq1 heq2 heq3
          injection heq1 with e1 e2
          injection heq2 with e3 e4
          injection heq3 with e5 e6
          subst e2 e3 e4 e5 e6
          have q1 := (RepV.ofC hx2 rfl).wInv.1
          have q2 := (RepV.ofC hy2 rfl).wInv.1
          subst q1 q2
          split at h
          · rename_i hkk
            subst hkk
            obtain ⟨rest, h2, h3⟩ := Option.map_eq_some_iff.1 h
            exact fin _ rest (run_equalIn_int W d e _ kk _ _ hty) h2 (by rw [← h3]; rfl)
          · cases h
        · rename_i heq1 _ _; injection heq1 with e1; cases e1
        · cases h

theorem snd_eqA (r : RelAt C n F s a W hdr ow) {ng : Bool} {x y : Operand} {x' y' : Opd} {t t' e : TypeId} {m : Nat} {cs ds : List PV} {rb : Bool} (ho : o.op = .binOp (if ng = true then .neq else .eql) t x y t') (ht : P.underlying t = some (.array m e)) (hk : ∃ kk, P.underlying e = some (.int kk)) (hkn : knownT P e = true) (hsz : szT P e = 1) (hgt : P.eqGuardType P.depth t = false)
    (hx : opd P t x = some x') (hy : opd P t y = some y') (hu : ev s.env x' = some (.v (.st cs))) (hv : ev s.env y' = some (.v (.st ds))) (he : eqCells (List.replicate m true) cs ds = some rb) : Snd P C n F s a W id o (.v (.w (.bool (if ng = true then !rb else rb)))) s.heap := by
  have hux := (opd_ok r hx hu).1
  have hvy := (opd_ok r hy hv).1
  simp only [RepA] at hux hvy
  obtain ⟨vs, e1, r1, _⟩ := hux.stInv
  obtain ⟨ws, e2, r2, _⟩ := hvy.stInv
  obtain ⟨kk, hty⟩ := hk
  obtain ⟨i, d, h1, h2, h3⟩ := known_info hkn
  have hrun : (Op.equal t (.agg vs.toArray) (.agg ws.toArray) : Sem Bool).run P W = .ok rb W := by
    unfold Op.equal
    have h1 := run_equalIn_array (P := P) W 9999 vs.toArray ws.toArray ht h1
    have h2 := eqItems_ok (P := P) (W := W) 9998 hty hkn vs.toArray ws.toArray m 0 cs ds rb (by simpa using r1) (by simpa using r2) he
    rw [show P.cellsOf e = 1 from hsz, List.range_eq_range'] at h1
    exact h1.trans h2
  refine Snd.scal r ?_ rfl
  simp only [execOp, ho, e1, e2]
  cases ng
  · simp [eqGuard, binOp, hrun, hgt]
  · simp [eqGuard, binOp, hrun, hgt]

theorem run_equalIn_nilS (w : World) (d : Nat) (t e : TypeId) (a : Option Addr) (l c : Nat) (h : P.underlying t = some (.slice e)) : (Op.equalIn (d + 1) t (.slice a l c) (.slice none 0 0)).run P w = .ok a.isNone w := by
  cases a <;> simp [Op.equalIn, run_underlying h]
theorem run_equal_nilS (w : World) (t e : TypeId) (a : Option Addr) (l c : Nat) (h : P.underlying t = some (.slice e)) : (Op.equal t (.slice a l c) (.slice none 0 0)).run P w = .ok a.isNone w := run_equalIn_nilS w 9999 t e a l c h

theorem snd_nilq (r : RelAt C n F s a W hdr ow) {ng : Bool} {x y : Operand} {x' : Opd} {t e t' : TypeId} {u : AV} {v : AV} (ho : o.op = .binOp (if ng = true then .neq else .eql) t x y t') (ht : P.underlying t = some (.slice e)) (hy : isNilC y = true)
    (hx : opd P t x = some x') (hu : ev s.env x' = some u) (hv : (u = .v .nl ∧ v = .v (.w (.bool (!ng)))) ∨ ∃ sz l, rdRow s.heap u = some (sz, l) ∧ v = if l.isEmpty = true then .ub else .v (.w (.bool ng))) : Snd P C n F s a W id o v s.heap := by
  have hux := (opd_ok r hx hu).1
  have hye : a.eval y = .slice none 0 0 := by
    cases y with
    | const v => 
      simp only [isNilC] at hy
      unfold isNilSlice at hy
      split at hy
      · rfl
      · cases hy
    | _ => simp [isNilC] at hy
  have hrun : ∀ (ao : Option Addr) (k c : Nat), (execOp a.eval o).run P W = .ok (.value (.bool (if ng = true then !ao.isNone else ao.isNone))) W ∨ a.eval x ≠ .slice ao k c := by
    intro ao k c
    by_cases h : a.eval x = .slice ao k c
    · left
      simp only [execOp, ho, h, hye]
      cases ng
      · simp [eqGuard, binOp, run_equal_nilS W t e ao k c ht]
      · simp [eqGuard, binOp, run_equal_nilS W t e ao k c ht]
    · exact .inr h
  rcases hv with ⟨rfl, rfl⟩ | ⟨sz, l, hr, rfl⟩
  · simp only [RepA] at hux
    have hx2 : a.eval x = .slice none 0 0 := by
      unfold RepV at hux
      simp only [PV.isSt, Bool.false_eq_true, if_false] at hux
      generalize hvv : [a.eval x] = vv at hux
      cases hux
      simp only [List.cons.injEq, and_true] at hvv
      exact hvv
    refine Snd.scal r ?_ rfl
    have := (hrun none 0 0).resolve_right (fun h => h hx2)
    rw [this]
    cases ng <;> rfl
  · have hq := rdRow_ok r hux hr
    rcases hq.slInv with ⟨h1, ao, h2⟩ | ⟨b, off, cap, c, h2, _, _, _, h3, _⟩
    · simp at h2
      have := (hrun _ _ _).resolve_right (fun h => h h2)
      refine ⟨_, W, hdr, ow, .inl this, r.monoF fun i h => .inl h, ?_, ?_⟩
      · rw [h1]; simp [RepA]
      · rw [h1]; simp [AV.men]
    · simp at h2
      have := (hrun _ _ _).resolve_right (fun h => h h2)
      by_cases hl : l = []
      · refine ⟨_, W, hdr, ow, .inl this, r.monoF fun i h => .inl h, ?_, ?_⟩
        · rw [hl]; simp [RepA]
        · rw [hl]; simp [AV.men]
      · have e : l.isEmpty = false := by cases l with
          | nil => exact absurd rfl hl
          | cons _ _ => rfl
        rw [e]
        refine Snd.scal r ?_ rfl
        rw [this]
        cases ng <;> rfl

theorem snd_mki (r : RelAt C n F s a W hdr ow) {x : Operand} {x' : Opd} {t : TypeId} {d : TypeDesc} {u : AV} {p : PV} {H' : Heap} (ho : o.op = .makeInterface t x) (hd : P.underlying t = some d) (hn : ∀ ms, d ≠ .interface ms)
    (hx : opd P t x = some x') (hu : ev s.env x' = some u) {q : Bool} (hp : tov q s.heap u = some (p, H')) : Snd P C n F s a W id o (.v (.ifc t p)) H' := by
  obtain ⟨ow1, r1, hpv, _, _⟩ := tov_ok r (opd_ok r hx hu).1 hp
  refine ⟨.iface t (a.eval x), W, hdr, ow1, .inl ?_, r1.monoF fun i h => .inl h, by simp only [RepA]; exact hpv.ifc, by simp [AV.men]⟩
  have h1 : (Instr.makeInterface t (a.eval x)).run P W = .ok (.iface t (a.eval x)) W := by
    unfold Instr.makeInterface
    cases d <;> first | (exact absurd rfl (hn _)) | simp [run_underlying hd]
  simp [execOp, ho, h1]
theorem snd_asrt (r : RelAt C n F s a W hdr ow) {x : Operand} {x' : Opd} {t xt : TypeId} {d : TypeDesc} {ok : Bool} {z : List PV} {v : AV} (ho : o.op = .typeAssert x xt t ok) (hd : P.underlying t = some d) (hn : ∀ ms, d ≠ .interface ms) (hz : zeroP P t = some z)
    (hx : opd P xt x = some x') (hv : (∃ t' p, ev s.env x' = some (.v (.ifc t' p)) ∧ ((t' = t ∧ v = if ok = true then .tup [.v p, .v (.w (.bool true))] else .v p) ∨ (t' ≠ t ∧ ok = true ∧ v = .tup [.u, .v (.w (.bool false))]))) ∨ (ev s.env x' = some (.v (.w .nilIface)) ∧ ok = true ∧ v = .tup [.u, .v (.w (.bool false))])) :
    Snd P C n F s a W id o v s.heap := by
  obtain ⟨i, zv, hi, hzv, _⟩ := zeroP_ok (W := W) (ok := OK C W s.heap ow) hz
  have hzr := run_zero hi hzv W
  rcases hv with ⟨t', p, hu, h⟩ | ⟨hu, rfl, rfl⟩
  · have hux := (opd_ok r hx hu).1
    simp only [RepA] at hux
    obtain ⟨y, hy, hyp⟩ := hux.ifcInv
    rcases h with ⟨rfl, rfl⟩ | ⟨hne, rfl, rfl⟩
    · have h1 : (Instr.typeAssert (a.eval x) xt t' ok).run P W = .ok (if ok = true then .tuple #[y, .bool true] else y) W := by
        unfold Instr.typeAssert
        rw [hy]
        cases d <;> first | (exact absurd rfl (hn _)) | (cases ok <;> simp [run_underlying hd])
      refine Snd.pure r (v := if ok = true then .tuple #[y, .bool true] else y) (by simp [execOp, ho, h1]) ?_ (by cases ok <;> simp [AV.men, AV.mens])
      cases ok
      · simp only [Bool.false_eq_true, if_false, RepA]; exact hyp
      · simp only [if_true, RepA]
        exact ⟨[y, .bool true], rfl, by simp only [RepAs, RepA]; exact ⟨hyp, RepV.w rfl, trivial⟩⟩
    · have h1 : (Instr.typeAssert (a.eval x) xt t true).run P W = .ok (.tuple #[zv, .bool false]) W := by
        unfold Instr.typeAssert
        rw [hy]
        cases d <;> first | (exact absurd rfl (hn _)) | simp [run_underlying hd, hne, hzr]
      refine Snd.pure r (v := .tuple #[zv, .bool false]) (by simp [execOp, ho, h1]) ?_ (by simp [AV.men, AV.mens])
      simp only [RepA]
      exact ⟨[zv, .bool false], rfl, by simp only [RepAs, RepA]; exact ⟨trivial, RepV.w rfl, trivial⟩⟩
  · have hux := (opd_ok r hx hu).1
    simp only [RepA] at hux
    have hy := hux.wInv.1
    have h1 : (Instr.typeAssert (a.eval x) xt t true).run P W = .ok (.tuple #[zv, .bool false]) W := by
      unfold Instr.typeAssert
      rw [hy]
      cases d <;> first | (exact absurd rfl (hn _)) | simp [run_underlying hd, hzr]
    refine Snd.pure r (v := .tuple #[zv, .bool false]) (by simp [execOp, ho, h1]) ?_ (by simp [AV.men, AV.mens])
    simp only [RepA]
    exact ⟨[zv, .bool false], rfl, by simp only [RepAs, RepA]; exact ⟨trivial, RepV.w rfl, trivial⟩⟩

end
end Go.AM
/- Maps: keys are held against each other, entries are looked up and put in. -/
set_option linter.all false
namespace Go.AM
open Go
variable [dr : Inhabited Prop]

/-- The cells of a value, as an operand has it. -/
def asV (P : Program) (t : TypeId) (vs : List Value) : Value := if aggT P t = true then .agg vs.toArray else vs.headD undef

theorem eqCells_cons {b : Bool} {ks : List Bool} {cs ds : List PV} {rb : Bool} (h : eqCells (b :: ks) cs ds = some rb) : ∃ l m r, eqCells ks l m = some r ∧
    ((b = true ∧ ∃ k a a', cs = .w (.int k a) :: l ∧ ds = .w (.int k a') :: m ∧ rb = (decide (a = a') && r)) ∨ (b = false ∧ ∃ a a', cs = .w (.string a) :: l ∧ ds = .w (.string a') :: m ∧ rb = (decide (a = a') && r))) := by
  cases b with
  | true =>
    unfold eqCells at h
    split at h
    · cases ‹true :: ks = []›
    · rename_i h1
      injection h1 with _ e2; subst e2
      split at h
      · rename_i hk
        subst hk
        obtain ⟨r, g1, g2⟩ := Option.map_eq_some_iff.1 h
        exact ⟨_, _, r, g1, .inl ⟨rfl, _, _, _, rfl, rfl, g2.symm⟩⟩
      · cases h
    · rename_i h1; injection h1 with e1; cases e1
    · cases h
  | false =>
    unfold eqCells at h
    split at h
    · cases ‹false :: ks = []›
    · rename_i h1; injection h1 with e1; cases e1
    · rename_i h1
      injection h1 with _ e2; subst e2
      obtain ⟨r, g1, g2⟩ := Option.map_eq_some_iff.1 h
      exact ⟨_, _, r, g1, .inr ⟨rfl, _, _, rfl, rfl, g2.symm⟩⟩
    · cases h

theorem eqCells_nil {cs ds : List PV} {rb : Bool} (h : eqCells [] cs ds = some rb) : cs = [] ∧ ds = [] ∧ rb = true := by
  cases cs <;> cases ds <;> simp [eqCells] at h
  exact ⟨rfl, rfl, h⟩

theorem eqCells_len : ∀ {ks : List Bool} {cs ds : List PV} {rb : Bool}, eqCells ks cs ds = some rb → cs.length = ks.length ∧ ds.length = ks.length
  | [], cs, ds, rb, h => by obtain ⟨rfl, rfl, _⟩ := eqCells_nil h; simp
  | b :: ks, cs, ds, rb, h => by
    obtain ⟨l, m, r, h1, ⟨_, _, _, _, rfl, rfl, _⟩ | ⟨_, _, _, rfl, rfl, _⟩⟩ := eqCells_cons h <;>
    · have := eqCells_len h1
      simp [this.1, this.2]

theorem eqCells_app : ∀ {k1 k2 : List Bool} {cs ds : List PV} {rb : Bool}, eqCells (k1 ++ k2) cs ds = some rb →
    ∃ b1 b2, eqCells k1 (cs.take k1.length) (ds.take k1.length) = some b1 ∧ eqCells k2 (cs.drop k1.length) (ds.drop k1.length) = some b2 ∧ rb = (b1 && b2)
  | [], k2, cs, ds, rb, h => ⟨true, rb, by simp [eqCells], by simpa using h, by simp⟩
  | b :: k1, k2, cs, ds, rb, h => by
    rw [List.cons_append] at h
    obtain ⟨l, m, r, h1, ⟨rfl, k, x, y, rfl, rfl, h2⟩ | ⟨rfl, x, y, rfl, rfl, h2⟩⟩ := eqCells_cons h
    · obtain ⟨b1, b2, g1, g2, g3⟩ := eqCells_app h1
      exact ⟨decide (x = y) && b1, b2, by simp [eqCells, g1], by simpa using g2, by rw [h2, g3, Bool.and_assoc]⟩
    · obtain ⟨b1, b2, g1, g2, g3⟩ := eqCells_app h1
      exact ⟨decide (x = y) && b1, b2, by simp [eqCells, g1], by simpa using g2, by rw [h2, g3, Bool.and_assoc]⟩

/-- A bare cell. -/
theorem RepC.wInv {W : World} {ok : Nat → Prop} {u v : Value} (r : RepC W ok (.w u) [v]) : v = u ∧ scal u = true := (RepV.ofC r rfl).wInv

theorem RepL.consInv {W : World} {ok : Nat → Prop} {u : Value} {l : List PV} {vs : List Value} (r : RepL W ok 1 (.w u :: l) vs) : ∃ ws, vs = u :: ws ∧ RepL W ok 1 l ws := by
  cases r with
  | cons q1 q2 q3 =>
    obtain ⟨v, rfl⟩ := List.length_eq_one_iff.1 q1
    have := q2.wInv.1
    subst this
    exact ⟨_, rfl, q3⟩

section
variable {P : Program} {W : World}

theorem run_part_as {t : TypeId} (h : knownT P t = true) {vs : List Value} {off : Nat} (ha : aggT P t = true ∨ szT P t = 1) (hl : off + szT P t ≤ vs.length) :
    (part t vs.toArray off).run P W = .ok (asV P t ((vs.drop off).take (szT P t))) W := by
  rw [run_part h]
  unfold asV
  by_cases hg : aggT P t = true
  · rw [if_pos hg, if_pos hg, extract_eq]
  · rw [if_neg hg, if_neg hg]
    have h1 := ha.resolve_left hg
    rw [h1] at hl ⊢
    have h2 : vs.toArray[off]? = some vs[off] := by simp
    rw [h2]
    have : (vs.drop off).take 1 = [vs[off]] := by
      rw [List.drop_eq_getElem_cons (by omega)]; rfl
    rw [this]; rfl

theorem keyKs_known {f : Nat} {t : TypeId} {ks : List Bool} (h : keyKs P f t = some ks) : knownT P t = true ∧ (aggT P t = true ∨ szT P t = 1) ∧ szT P t = ks.length := by
  cases f with
  | zero => simp [keyKs] at h
  | succ f =>
    simp only [keyKs] at h
    split at h
    · rename_i hk
      refine ⟨hk, ?_⟩
      unfold aggT
      split at h <;> rename_i hu
      · rw [hu]; split at h
        · rename_i h1; cases h; exact ⟨.inr h1, h1⟩
        · cases h
      · rw [hu]; split at h
        · rename_i h1; cases h; exact ⟨.inr h1, h1⟩
        · cases h
      · rw [hu]; split at h
        · split at h
          · split at h
            · rename_i h1; cases h; exact ⟨.inl rfl, h1.symm⟩
            · cases h
          · cases h
        · cases h
      · rw [hu]; split at h
        · split at h
          · rename_i h1; cases h; exact ⟨.inl rfl, by simp [h1.2]⟩
          · cases h
        · cases h
      · cases h
    · cases h

variable {ok : Nat → Prop}

theorem RepL.cut1 {cs : List PV} {vs : List Value} (r : RepL W ok 1 cs vs) (n : Nat) : RepL W ok 1 (cs.take n) (vs.take n) ∧ RepL W ok 1 (cs.drop n) (vs.drop n) := by
  have h1 := r.take n; have h2 := r.drop n
  rw [Nat.mul_one] at h1 h2; exact ⟨h1, h2⟩

theorem eqItems_key {e : TypeId} {ks : List Bool} {f d : Nat} (hd : f ≤ d) (hk : knownT P e = true) (ha : aggT P e = true ∨ szT P e = 1) (hs : szT P e = ks.length)
    (ih : ∀ (vs ws : List Value) (cs ds : List PV) (rb : Bool), RepL W ok 1 cs vs → RepL W ok 1 ds ws → eqCells ks cs ds = some rb → (Op.equalIn d e (asV P e vs) (asV P e ws)).run P W = .ok rb W)
    (vs ws : List Value) (hvl : ws.length = vs.length) : ∀ (m k : Nat) (cs ds : List PV) (rb : Bool), (k + m) * ks.length ≤ vs.length → RepL W ok 1 cs (vs.drop (k * ks.length)) → RepL W ok 1 ds (ws.drop (k * ks.length)) →
      eqCells (List.replicate m ks).flatten cs ds = some rb → (Op.eqItems d e ks.length vs.toArray ws.toArray (List.range' k m)).run P W = .ok rb W
  | 0, k, cs, ds, rb, _, hc, hd', h => by
    cases cs <;> cases ds <;> simp [eqCells] at h
    subst h; simp [Op.eqItems]
  | m + 1, k, cs, ds, rb, hl, hc, hd', h => by
    rw [List.replicate_succ, List.flatten_cons] at h
    obtain ⟨b1, b2, g1, g2, g3⟩ := eqCells_app h
    have hkl : k * ks.length + ks.length ≤ vs.length := by
      refine Nat.le_trans ?_ hl
      rw [Nat.add_mul, Nat.add_mul]; omega
    have hpx : (part e vs.toArray (k * ks.length)).run P W = .ok (asV P e ((vs.drop (k * ks.length)).take ks.length)) W := by
      rw [← hs]; exact run_part_as hk ha (by rw [hs]; exact hkl)
    have hpy : (part e ws.toArray (k * ks.length)).run P W = .ok (asV P e ((ws.drop (k * ks.length)).take ks.length)) W := by
      rw [← hs]; exact run_part_as hk ha (by rw [hs, hvl]; exact hkl)
    have h1 := ih _ _ _ _ b1 (hc.cut1 ks.length).1 (hd'.cut1 ks.length).1 g1
    have e1 : (k + 1) * ks.length = k * ks.length + ks.length := by rw [Nat.add_mul, Nat.one_mul]
    have h2 := eqItems_key hd hk ha hs ih vs ws hvl m (k + 1) (cs.drop ks.length) (ds.drop ks.length) b2 (by rw [show k + 1 + m = k + (m + 1) by omega]; exact hl)
      (by rw [e1, ← List.drop_drop]; exact (hc.cut1 ks.length).2) (by rw [e1, ← List.drop_drop]; exact (hd'.cut1 ks.length).2) g2
    subst g3
    rw [List.range'_succ]
    cases b1 <;> simp only [Op.eqItems, Sem.run_bind, hpx, hpy, h1, Result.andThen_ok] <;> simp [h2]

theorem key_eq : ∀ (f : Nat),
    (∀ (t : TypeId) (ks : List Bool), keyKs P f t = some ks → ∀ (d : Nat), f ≤ d → ∀ (vs ws : List Value) (cs ds : List PV) (rb : Bool), RepL W ok 1 cs vs → RepL W ok 1 ds ws → eqCells ks cs ds = some rb → (Op.equalIn d t (asV P t vs) (asV P t ws)).run P W = .ok rb W) ∧
    (∀ (fs : List Field) (off : Nat) (ks : List Bool), keyFs P f off fs = some ks → ∀ (d : Nat), f ≤ d → ∀ (vs ws : List Value) (cs ds : List PV) (rb : Bool), off + ks.length ≤ vs.length → off + ks.length ≤ ws.length → RepL W ok 1 cs (vs.drop off) → RepL W ok 1 ds (ws.drop off) →
      eqCells ks cs ds = some rb → (Op.eqFields d vs.toArray ws.toArray fs).run P W = .ok rb W)
  | 0 => by
    refine ⟨fun t ks h => by simp [keyKs] at h, fun fs off ks h d hd vs ws cs ds rb _ _ hc hd' he => ?_⟩
    cases fs with
    | nil =>
      simp [keyFs] at h; subst h
      cases cs <;> cases ds <;> simp [eqCells] at he
      subst he; simp [Op.eqFields]
    | cons x fs => simp [keyFs] at h
  | f + 1 => by
    obtain ⟨ih1, ih2⟩ := key_eq f
    constructor
    · intro t ks h d hd vs ws cs ds rb hc hd' he
      obtain ⟨hkn, hag, hsz⟩ := keyKs_known h
      obtain ⟨d, rfl⟩ : ∃ d', d = d' + 1 := ⟨d - 1, by omega⟩
      have hvl : vs.length = ks.length := by rw [← (eqCells_len he).1]; have := hc.length; omega
      have hwl : ws.length = ks.length := by rw [← (eqCells_len he).2]; have := hd'.length; omega
      simp only [keyKs] at h
      rw [if_pos hkn] at h
      split at h
      · rename_i kk hu
        split at h
        · cases h
          have hga : aggT P t = false := by unfold aggT; rw [hu]
          unfold asV
          simp only [hga, Bool.false_eq_true, if_false]
          obtain ⟨l, m, r, h1, ⟨_, k, x, y, rfl, rfl, h2⟩ | ⟨e, _⟩⟩ := eqCells_cons he
          · obtain ⟨rfl, rfl, rfl⟩ := eqCells_nil h1
            obtain ⟨_, rfl, _⟩ := hc.consInv
            obtain ⟨_, rfl, _⟩ := hd'.consInv
            rw [h2, Bool.and_true]
            exact run_equalIn_int W d t _ kk _ _ hu
          · cases e
        · cases h
      · rename_i hu
        split at h
        · cases h
          have hga : aggT P t = false := by unfold aggT; rw [hu]
          unfold asV
          simp only [hga, Bool.false_eq_true, if_false]
          obtain ⟨l, m, r, h1, ⟨e, _⟩ | ⟨_, x, y, rfl, rfl, h2⟩⟩ := eqCells_cons he
          · cases e
          · obtain ⟨rfl, rfl, rfl⟩ := eqCells_nil h1
            obtain ⟨_, rfl, _⟩ := hc.consInv
            obtain ⟨_, rfl, _⟩ := hd'.consInv
            rw [h2, Bool.and_true]
            simp only [List.headD_cons, ← eq_toList]
            exact run_equalIn_string W d t _ _ hu
        · cases h
      · rename_i fs hu
        split at h
        · rename_i hst
          split at h
          · rename_i ks' hfs
            split at h
            · cases h
              have hga : aggT P t = true := by unfold aggT; rw [hu]
              have hfo : P.fieldsOf t = fs := by unfold Program.fieldsOf; rw [hu]
              unfold asV
              simp only [hga, if_true]
              have h1 := run_equalIn_struct (P := P) W d t vs.toArray ws.toArray (by rw [hfo]; exact hu) hst
              rw [hfo] at h1
              exact h1.trans (ih2 fs.toList 0 ks hfs d (by omega) vs ws cs ds rb (by omega) (by omega) (by simpa using hc) (by simpa using hd') he)
            · cases h
          · cases h
        · cases h
      · rename_i m e hu
        split at h
        · rename_i ks' hke
          split at h
          · rename_i hsz2
            cases h
            obtain ⟨hkn', hag', hsz'⟩ := keyKs_known hke
            have hga : aggT P t = true := by unfold aggT; rw [hu]
            unfold asV
            simp only [hga, if_true]
            obtain ⟨i, dd, h1, h2, h3⟩ := known_info hkn'
            have h1 := run_equalIn_array (P := P) W d vs.toArray ws.toArray hu h1
            rw [h1, show P.cellsOf e = ks'.length from hsz2.1, List.range_eq_range']
            have hlen : (List.replicate m ks').flatten.length = m * ks'.length := by simp
            exact eqItems_key (f := f) (by omega) hkn' hag' hsz' (fun vs ws cs ds rb a b c => ih1 e ks' hke d (by omega) vs ws cs ds rb a b c) vs ws (by omega) m 0 cs ds rb (by rw [Nat.zero_add]; omega) (by simpa using hc) (by simpa using hd') he
          · cases h
        · cases h
      · cases h
    · intro fs off ks h d hd vs ws cs ds rb hl1 hl2 hc hd' he
      cases fs with
      | nil =>
        simp [keyFs] at h; subst h
        cases cs <;> cases ds <;> simp [eqCells] at he
        subst he; simp [Op.eqFields]
      | cons x fs =>
        simp only [keyFs] at h
        split at h
        · rename_i hx
          split at h
          · rename_i k1 hk1
            split at h
            · rename_i hs1
              split at h
              · rename_i k2 hk2
                cases h
                obtain ⟨hkn, hag, _⟩ := keyKs_known hk1
                obtain ⟨b1, b2, g1, g2, g3⟩ := eqCells_app he
                rw [List.length_append] at hl1 hl2
                have hpx : (part x.type vs.toArray x.offset).run P W = .ok (asV P x.type ((vs.drop off).take k1.length)) W := by
                  rw [hx.1, ← hs1]; exact run_part_as hkn hag (by rw [hs1]; omega)
                have hpy : (part x.type ws.toArray x.offset).run P W = .ok (asV P x.type ((ws.drop off).take k1.length)) W := by
                  rw [hx.1, ← hs1]; exact run_part_as hkn hag (by rw [hs1]; omega)
                have h1 := ih1 x.type k1 hk1 d (by omega) _ _ _ _ b1 (hc.cut1 k1.length).1 (hd'.cut1 k1.length).1 g1
                have h2 := ih2 fs (off + k1.length) k2 hk2 d (by omega) vs ws _ _ b2 (by omega) (by omega) (by rw [← List.drop_drop]; exact (hc.cut1 k1.length).2) (by rw [← List.drop_drop]; exact (hd'.cut1 k1.length).2) g2
                subst g3
                cases b1 <;> simp [Op.eqFields, hx.2, hpx, hpy, h1, h2]
              · cases h
            · cases h
          · cases h
        · cases h

theorem key_chk (em : Bool) : ∀ (f : Nat),
    (∀ (t : TypeId) (ks : List Bool), keyKs P f t = some ks → ∀ (d : Nat), f ≤ d → ∀ (vs : List Value), ks.length ≤ vs.length → (Instr.checkKey em d t (asV P t vs)).run P W = .ok () W) ∧
    (∀ (fs : List Field) (off : Nat) (ks : List Bool), keyFs P f off fs = some ks → ∀ (d : Nat), f ≤ d → ∀ (vs : List Value), off + ks.length ≤ vs.length →
      (forIn fs PUnit.unit (fun x (_ : PUnit) => do
        if x.name ≠ "_" then
          Instr.checkKey em d x.type (← part x.type vs.toArray x.offset)
        pure (ForInStep.yield PUnit.unit)) : Sem PUnit).run P W = .ok PUnit.unit W)
  | 0 => by
    refine ⟨fun t ks h => by simp [keyKs] at h, fun fs off ks h d hd vs _ => ?_⟩
    cases fs with
    | nil => simp
    | cons x fs => simp [keyFs] at h
  | f + 1 => by
    obtain ⟨ih1, ih2⟩ := key_chk em f
    constructor
    · intro t ks h d hd vs hl
      obtain ⟨hkn, hag, hsz⟩ := keyKs_known h
      obtain ⟨d, rfl⟩ : ∃ d', d = d' + 1 := ⟨d - 1, by omega⟩
      simp only [keyKs] at h
      rw [if_pos hkn] at h
      split at h
      · rename_i kk hu
        rw [Instr.checkKey]; simp only [Sem.run_bind, run_underlying hu, Result.andThen_ok]; simp
      · rename_i hu
        rw [Instr.checkKey]; simp only [Sem.run_bind, run_underlying hu, Result.andThen_ok]; simp
      · rename_i fs hu
        split at h
        · split at h
          · rename_i ks' hfs
            split at h
            · cases h
              have hga : aggT P t = true := by unfold aggT; rw [hu]
              have h1 := ih2 fs.toList 0 ks hfs d (by omega) vs (by omega)
              unfold asV
              rw [if_pos hga, Instr.checkKey]
              simp only [Sem.run_bind, run_underlying hu, Result.andThen_ok]
              rw [← Array.forIn_toList]
              have h2 := congrArg (fun z => z.andThen fun (_ : PUnit) w' => Result.ok () w') h1
              simpa using h2
            · cases h
          · cases h
        · cases h
      · rename_i m e hu
        split at h
        · rename_i ks' hke
          split at h
          · rename_i hsz2
            cases h
            obtain ⟨hkn', hag', hsz'⟩ := keyKs_known hke
            have hga : aggT P t = true := by unfold aggT; rw [hu]
            obtain ⟨i, dd, hi, h2, h3⟩ := known_info hkn'
            have hlen : (List.replicate m ks').flatten.length = m * ks'.length := by simp
            rw [hlen] at hl
            unfold asV
            rw [if_pos hga, Instr.checkKey]
            simp only [Sem.run_bind, run_underlying hu, Result.andThen_ok]
            simp only [Std.Legacy.Range.forIn_eq_forIn_range', Std.Legacy.Range.size, Nat.sub_zero, Nat.add_one_sub_one, Nat.div_one]
            have each : ∀ j ∈ List.range' 0 m, j < m := by simp
            generalize List.range' 0 m = is at each
            induction is with
            | nil => simp
            | cons j is ih =>
              have hj := each j (by simp)
              have hjl : j * ks'.length + ks'.length ≤ vs.length := by
                refine Nat.le_trans ?_ hl
                rw [← Nat.succ_mul]; exact Nat.mul_le_mul_right _ hj
              have p1 : (part e vs.toArray (j * szT P e)).run P W = .ok (asV P e ((vs.drop (j * szT P e)).take (szT P e))) W := run_part_as hkn' hag' (by rw [hsz']; exact hjl)
              have p2 := ih1 e ks' hke d (by omega) ((vs.drop (j * szT P e)).take (szT P e)) (by rw [hsz', List.length_take, List.length_drop]; omega)
              simp only [List.forIn_cons, Sem.run_bind, run_sizeOf hkn', Result.andThen_ok, p1, p2, Sem.run_pure]
              exact ih (fun y hy => each y (by simp [hy]))
          · cases h
        · cases h
      · cases h
    · intro fs off ks h d hd vs hl
      cases fs with
      | nil => simp
      | cons x fs =>
        simp only [keyFs] at h
        split at h
        · rename_i hx
          split at h
          · rename_i k1 hk1
            split at h
            · rename_i hs1
              split at h
              · rename_i k2 hk2
                cases h
                obtain ⟨hkn, hag, _⟩ := keyKs_known hk1
                rw [List.length_append] at hl
                have p1 : (part x.type vs.toArray x.offset).run P W = .ok (asV P x.type ((vs.drop off).take k1.length)) W := by
                  rw [hx.1, ← hs1]; exact run_part_as hkn hag (by rw [hs1]; omega)
                have p2 := ih1 x.type k1 hk1 d (by omega) ((vs.drop off).take k1.length) (by rw [List.length_take, List.length_drop]; omega)
                have p3 := ih2 fs (off + k1.length) k2 hk2 d (by omega) vs (by omega)
                simp only [List.forIn_cons, Sem.run_bind, hx.2, ne_eq, not_false_eq_true, if_true, Result.andThen_ok, p1, p2, Sem.run_pure]
                simpa using p3
              · cases h
            · cases h
          · cases h
        · cases h

/-- An entry of the map, borne. -/
def EntR (W : World) (ok : Nat → Prop) (p : PV) (m : MapEntry) : Prop := ∃ k v, p = .st [k, v] ∧ RepV W ok k m.key ∧ RepV W ok v m.val

def EntsR (W : World) (ok : Nat → Prop) : List PV → List MapEntry → Prop
  | [], [] => True
  | p :: l, m :: ms => EntR W ok p m ∧ EntsR W ok l ms
  | _, _ => False

theorem entsR_of : ∀ {l : List PV} {ms : List MapEntry}, l.length = ms.length → (∀ (j : Nat) p m, l[j]? = some p → ms[j]? = some m → EntR W ok p m) → EntsR W ok l ms
  | [], [], _, _ => trivial
  | [], _ :: _, h, _ => by simp at h
  | _ :: _, [], h, _ => by simp at h
  | p :: l, m :: ms, h, h2 => ⟨h2 0 p m rfl rfl, entsR_of (by simpa using h) fun j p m h3 h4 => h2 (j + 1) p m (by simpa using h3) (by simpa using h4)⟩

/-- The place of a key, and its value. -/
def mpos (ag : Bool) (ks : List Bool) (k : PV) : List PV → Nat → Option (Option (Nat × PV))
  | [], _ => some none
  | .st [k', v] :: l, i => match keq ag ks k k' with
    | some true => some (some (i, v))
    | some false => mpos ag ks k l (i + 1)
    | none => none
  | _ :: _, _ => none

theorem mfind_pos {ag : Bool} {ks : List Bool} {k : PV} : ∀ {l : List PV} {r : Option PV} (i : Nat), mfind ag ks k l = some r → ∃ q, mpos ag ks k l i = some q ∧ q.map Prod.snd = r
  | [], r, i, h => by simp [mfind] at h; subst h; exact ⟨none, rfl, rfl⟩
  | p :: l, r, i, h => by
    unfold mfind at h
    split at h
    · cases ‹p :: l = []›
    · rename_i k' v l' heq
      injection heq with e1 e2; subst e1 e2
      split at h
      · rename_i hk; cases h; exact ⟨some (i, v), by simp [mpos, hk], rfl⟩
      · rename_i hk
        obtain ⟨q, h1, h2⟩ := mfind_pos (i + 1) h
        exact ⟨q, by simp [mpos, hk, h1], h2⟩
      · cases h
    · cases h

theorem mset_pos {ag : Bool} {ks : List Bool} {k v : PV} : ∀ {l l' : List PV} (i : Nat), mset ag ks k v l = some l' → ∃ q, mpos ag ks k l i = some q ∧
    (match q with | some (j, _) => i ≤ j ∧ j - i < l.length ∧ l' = l.set (j - i) (.st [k, v]) | none => l' = l ++ [.st [k, v]])
  | [], l', i, h => by simp [mset] at h; subst h; exact ⟨none, rfl, rfl⟩
  | p :: l, l', i, h => by
    unfold mset at h
    split at h
    · cases ‹p :: l = []›
    · rename_i k' v' l2 heq
      injection heq with e1 e2; subst e1 e2
      split at h
      · rename_i hk; cases h; exact ⟨some (i, v'), by simp [mpos, hk], by simp⟩
      · rename_i hk
        obtain ⟨l3, h3, rfl⟩ := Option.map_eq_some_iff.1 h
        obtain ⟨q, h1, h2⟩ := mset_pos (i + 1) h3
        refine ⟨q, by simp [mpos, hk, h1], ?_⟩
        cases q with
        | none => simp only at h2 ⊢; rw [h2]; rfl
        | some x =>
          obtain ⟨j, y⟩ := x
          simp only at h2 ⊢
          obtain ⟨g1, g2, g3⟩ := h2
          have e : j - i = (j - (i + 1)) + 1 := by omega
          refine ⟨by omega, by simp; omega, ?_⟩
          rw [e, g3]; rfl
      · cases h
    · cases h

theorem keq_cells {ag : Bool} {ks : List Bool} {k k' : PV} {b : Bool} (h : keq ag ks k k' = some b) : (ag = true → ∃ a a', k = .st a ∧ k' = .st a' ∧ eqCells ks a a' = some b) ∧ (ag = false → ∃ v v', k = .w v ∧ k' = .w v' ∧ eqCells ks [.w v] [.w v'] = some b) := by
  unfold keq at h
  split at h
  · split at h
    · rename_i hag; exact ⟨fun _ => ⟨_, _, rfl, rfl, h⟩, fun h' => by rw [h'] at hag; cases hag⟩
    · cases h
  · split at h
    · cases h
    · rename_i hag; exact ⟨fun h' => (hag h').elim, fun _ => ⟨_, _, rfl, rfl, h⟩⟩
  · cases h

theorem run_keq {t : TypeId} {ks : List Bool} (hks : keyKs P 40 t = some ks) {k k' : PV} {v v' : Value} (hv : RepV W ok k v) (hv' : RepV W ok k' v') {b : Bool} (h : keq (aggT P t) ks k k' = some b) :
    (Op.equal t v v').run P W = .ok b W := by
  obtain ⟨hc1, hc2⟩ := keq_cells h
  cases hag : aggT P t with
  | true =>
    obtain ⟨a, a', rfl, rfl, he⟩ := hc1 hag
    obtain ⟨vs, rfl, r1, _⟩ := hv.stInv
    obtain ⟨ws, rfl, r2, _⟩ := hv'.stInv
    have := (key_eq (P := P) (W := W) (ok := ok) 40).1 t ks hks 10000 (by decide) vs ws a a' b r1 r2 he
    unfold asV at this
    rw [if_pos hag, if_pos hag] at this
    exact this
  | false =>
    obtain ⟨u, u', rfl, rfl, he⟩ := hc2 hag
    obtain ⟨rfl, s1⟩ := hv.wInv
    obtain ⟨rfl, s2⟩ := hv'.wInv
    have := (key_eq (P := P) (W := W) (ok := ok) 40).1 t ks hks 10000 (by decide) [v] [v'] [.w v] [.w v'] b (RepL.cons rfl (.w s1) .nil) (RepL.cons rfl (.w s2) .nil) he
    unfold asV at this
    rw [if_neg (by rw [hag]; simp), if_neg (by rw [hag]; simp)] at this
    exact this

theorem sameNow_keq {d : TypeDesc} {t : TypeId} {ks : List Bool} {k k' : PV} {v v' : Value} (hv : RepV W ok k v) (hv' : RepV W ok k' v') {b b' : Bool} (h : keq (aggT P t) ks k k' = some b) (hs : Instr.sameNow d v v' = some b') : b' = b := by
  obtain ⟨hc1, hc2⟩ := keq_cells h
  cases hag : aggT P t with
  | true =>
    obtain ⟨a, a', rfl, rfl, he⟩ := hc1 hag
    obtain ⟨vs, rfl, r1, _⟩ := hv.stInv
    unfold Instr.sameNow at hs
    split at hs <;> first | (cases hs; done) | contradiction | simp_all
  | false =>
    obtain ⟨u, u', rfl, rfl, he⟩ := hc2 hag
    obtain ⟨rfl, s1⟩ := hv.wInv
    obtain ⟨rfl, s2⟩ := hv'.wInv
    obtain ⟨c, ks', rfl⟩ : ∃ c ks', ks = c :: ks' := by
      cases ks with
      | nil => simp [eqCells] at he
      | cons c ks => exact ⟨c, ks, rfl⟩
    obtain ⟨l, m, r, h1, ⟨rfl, k, x, y, e1, e2, h2⟩ | ⟨rfl, x, y, e1, e2, h2⟩⟩ := eqCells_cons he
    · injection e1 with e1 e3; injection e2 with e2 e4
      injection e1 with e1; injection e2 with e2
      subst e1 e2 e3 e4
      have : ks' = [] := by have := (eqCells_len h1).1; simpa using this.symm
      subst this
      obtain ⟨_, _, rfl⟩ := eqCells_nil h1
      unfold Instr.sameNow at hs
      split at hs <;> simp_all
      rw [← hs]; rfl
    · injection e1 with e1 e3; injection e2 with e2 e4
      injection e1 with e1; injection e2 with e2
      subst e1 e2 e3 e4
      have : ks' = [] := by have := (eqCells_len h1).1; simpa using this.symm
      subst this
      obtain ⟨_, _, rfl⟩ := eqCells_nil h1
      unfold Instr.sameNow at hs
      split at hs <;> simp_all
      rw [← hs, beq_toListBytes, eq_toList]

/-- The same place, and the value. -/
def PosR (W : World) (ok : Nat → Prop) : Option (Nat × PV) → Option (Nat × Value) → Prop
  | none, none => True
  | some (j, v), some (j', v') => j = j' ∧ RepV W ok v v'
  | _, _ => False

theorem findNow_pos {d : TypeDesc} {t : TypeId} {ks : List Bool} {k : PV} {kv : Value} (hk : RepV W ok k kv) : ∀ {l : List PV} {ms : List MapEntry} {i : Nat} {q : Option (Nat × PV)} {r : Option (Nat × Value)}, EntsR W ok l ms → mpos (aggT P t) ks k l i = some q →
    Instr.findNow d kv ms i = some r → PosR W ok q r
  | [], [], i, q, r, _, h1, h2 => by simp [mpos] at h1; simp [Instr.findNow] at h2; subst h1 h2; trivial
  | [], _ :: _, _, _, _, h, _, _ => h.elim
  | _ :: _, [], _, _, _, h, _, _ => h.elim
  | p :: l, m :: ms, i, q, r, hE, h1, h2 => by
    obtain ⟨⟨k', v, rfl, g1, g2⟩, g3⟩ := hE
    simp only [mpos] at h1
    simp only [Instr.findNow] at h2
    split at h1
    · rename_i hq
      cases h1
      split at h2
      · cases h2; exact ⟨rfl, g2⟩
      · rename_i hs; have := sameNow_keq hk g1 hq hs; cases this
      · cases h2
    · rename_i hq
      split at h2
      · rename_i hs; have := sameNow_keq hk g1 hq hs; cases this
      · exact findNow_pos hk g3 h1 h2
      · cases h2
    · cases h1

theorem run_findAsking {t : TypeId} {ks : List Bool} (hks : keyKs P 40 t = some ks) {k : PV} {kv : Value} (hk : RepV W ok k kv) : ∀ {l : List PV} {ms : List MapEntry} {i : Nat} {q : Option (Nat × PV)}, EntsR W ok l ms → mpos (aggT P t) ks k l i = some q →
    ∃ r : Option (Nat × Value), (Instr.findAsking t kv ms i).run P W = .ok r W ∧ PosR W ok q r
  | [], [], i, q, _, h1 => by simp [mpos] at h1; subst h1; exact ⟨none, by simp [Instr.findAsking], trivial⟩
  | [], _ :: _, _, _, h, _ => h.elim
  | _ :: _, [], _, _, h, _ => h.elim
  | p :: l, m :: ms, i, q, hE, h1 => by
    obtain ⟨⟨k', v, rfl, g1, g2⟩, g3⟩ := hE
    simp only [mpos] at h1
    split at h1
    · rename_i hq
      cases h1
      exact ⟨some (i, m.val), by simp [Instr.findAsking, run_keq hks hk g1 hq], rfl, g2⟩
    · rename_i hq
      obtain ⟨r, h2, h3⟩ := run_findAsking hks hk g3 h1
      exact ⟨r, by simp [Instr.findAsking, run_keq hks hk g1 hq, h2], h3⟩
    · cases h1

/-- A key is found. -/
theorem run_find {t : TypeId} {ks : List Bool} (hks : keyKs P 40 t = some ks) {k : PV} {kv : Value} (hk : RepV W ok k kv) {l : List PV} {ms : List MapEntry} {q : Option (Nat × PV)} (he : EntsR W ok l ms) (h : mpos (aggT P t) ks k l 0 = some q) :
    ∃ r : Option (Nat × Value), (Instr.findKey t kv ms).run P W = .ok r W ∧ PosR W ok q r := by
  obtain ⟨i, d, _, hd, _⟩ := known_info (keyKs_known hks).1
  unfold Instr.findKey
  simp only [Sem.run_bind, run_underlying hd, Result.andThen_ok]
  cases hf : Instr.findNow d kv ms 0 with
  | some r => exact ⟨r, by simp, findNow_pos hk he h hf⟩
  | none =>
    obtain ⟨r, h1, h2⟩ := run_findAsking hks hk he h
    exact ⟨r, by simpa using h1, h2⟩

theorem eqCells_true : ∀ {ks : List Bool} {cs ds : List PV} {vs ws : List Value}, RepL W ok 1 cs vs → RepL W ok 1 ds ws → eqCells ks cs ds = some true → vs = ws ∧ ∀ v ∈ vs, ∀ n, Instr.sameBits n v v = true
  | [], cs, ds, vs, ws, hc, hd, h => by
    obtain ⟨rfl, rfl, _⟩ := eqCells_nil h
    cases hc; cases hd; exact ⟨rfl, by simp⟩
  | b :: ks, cs, ds, vs, ws, hc, hd, h => by
    obtain ⟨l, m, r, h1, ⟨rfl, k, x, y, rfl, rfl, h2⟩ | ⟨rfl, x, y, rfl, rfl, h2⟩⟩ := eqCells_cons h <;>
    · have h2 := h2.symm
      simp only [Bool.and_eq_true, decide_eq_true_eq] at h2
      obtain ⟨e1, e2⟩ := h2
      subst e1 e2
      obtain ⟨vs', rfl, hc'⟩ := hc.consInv
      obtain ⟨ws', rfl, hd'⟩ := hd.consInv
      obtain ⟨rfl, h5⟩ := eqCells_true hc' hd' h1
      refine ⟨rfl, fun v hv n => ?_⟩
      rcases List.mem_cons.1 hv with rfl | hv
      · cases n <;> simp [Instr.sameBits, beq_toListBytes]
      · exact h5 v hv n

theorem zip_all {f : Value × Value → Bool} : ∀ (l : List Value), (∀ v ∈ l, f (v, v) = true) → (l.zip l).all f = true
  | [], _ => rfl
  | v :: l, h => by
    simp only [List.zip_cons_cons, List.all_cons, Bool.and_eq_true]
    exact ⟨h v (by simp), zip_all l fun w hw => h w (by simp [hw])⟩

theorem keq_true {ag : Bool} {ks : List Bool} {k k' : PV} {v v' : Value} (hv : RepV W ok k v) (hv' : RepV W ok k' v') (h : keq ag ks k k' = some true) : v = v' ∧ Instr.sameBits 10000 v v = true := by
  obtain ⟨hc1, hc2⟩ := keq_cells h
  cases ag with
  | true =>
    obtain ⟨a, a', rfl, rfl, he⟩ := hc1 rfl
    obtain ⟨vs, rfl, r1, _⟩ := hv.stInv
    obtain ⟨ws, rfl, r2, _⟩ := hv'.stInv
    obtain ⟨rfl, h2⟩ := eqCells_true r1 r2 he
    refine ⟨rfl, ?_⟩
    simp only [Instr.sameBits, beq_self_eq_true, Bool.true_and]
    exact zip_all vs fun v hv => h2 v hv _
  | false =>
    obtain ⟨u, u', rfl, rfl, he⟩ := hc2 rfl
    obtain ⟨rfl, s1⟩ := hv.wInv
    obtain ⟨rfl, s2⟩ := hv'.wInv
    obtain ⟨h1, h2⟩ := eqCells_true (W := W) (ok := ok) (RepL.cons rfl (.w s1) .nil) (RepL.cons rfl (.w s2) .nil) he
    injection h1 with h1
    exact ⟨h1, h2 v (by simp) _⟩

theorem mpos_key {ag : Bool} {ks : List Bool} {k : PV} : ∀ (l : List PV) (i j : Nat) (v : PV), mpos ag ks k l i = some (some (j, v)) → i ≤ j ∧ ∃ k', l[j - i]? = some (.st [k', v]) ∧ keq ag ks k k' = some true
  | [], _, _, _, h => by simp [mpos] at h
  | p :: l, i, j, v, h => by
    obtain ⟨k1, v1, rfl⟩ : ∃ k1 v1, p = .st [k1, v1] := by
      unfold mpos at h
      split at h
      · cases ‹p :: l = []›
      · rename_i heq; injection heq with e1; exact ⟨_, _, e1⟩
      · cases h
    simp only [mpos] at h
    split at h
    · rename_i hk; cases h; exact ⟨Nat.le_refl _, _, by simp, hk⟩
    · obtain ⟨h1, k', h2, h3⟩ := mpos_key l (i + 1) j v h
      refine ⟨by omega, k', ?_, h3⟩
      have e : j - i = (j - (i + 1)) + 1 := by omega
      rw [e]; simpa using h2
    · cases h

theorem heap_put {w : World} {r : Nat} {o o' : Obj} (hb : w.heap[r]? = some o) : (w.heap.setIfInBounds r o')[r]? = some o' ∧ ∀ r', r' ≠ r → (w.heap.setIfInBounds r o')[r']? = w.heap[r']? := by
  have hlt : r < w.heap.size := (Array.getElem?_eq_some_iff.1 hb).1
  exact ⟨by simp [hlt], fun r' hne => by simp [Ne.symm hne]⟩

theorem getMap {b c : Nat} {es : Array MapEntry} (h : W.heap[b]? = some (.map es c)) : (getObj b).run P W = .ok (.map es c) W := by simp [getObj, Sem.run, h]
theorem setMap {b c : Nat} {es : Array MapEntry} (ob : Obj) (h : W.heap[b]? = some (.map es c)) : (setObj b ob).run P W = .ok () { W with heap := W.heap.setIfInBounds b ob } := by simp [setObj, Sem.run, h]

theorem kok_chk {t : TypeId} {ks : List Bool} (hks : keyKs P 40 t = some ks) {k : PV} {v : Value} (hv : RepV W ok k v) (h : kok (aggT P t) ks k = true) (em : Bool) : (Instr.checkKey em 10000 t v).run P W = .ok () W := by
  unfold kok at h
  obtain ⟨b, h⟩ := Option.isSome_iff_exists.1 h
  obtain ⟨hc1, hc2⟩ := keq_cells h
  cases hag : aggT P t with
  | true =>
    obtain ⟨a, a', rfl, _, he⟩ := hc1 hag
    obtain ⟨vs, rfl, r1, _⟩ := hv.stInv
    have hl := (eqCells_len he).1
    have := r1.length
    have := (key_chk (P := P) (W := W) em 40).1 t ks hks 10000 (by decide) vs (by omega)
    unfold asV at this
    rwa [if_pos hag] at this
  | false =>
    obtain ⟨u, u', rfl, _, he⟩ := hc2 hag
    obtain ⟨rfl, s1⟩ := hv.wInv
    have hl := (eqCells_len he).1
    simp at hl
    have := (key_chk (P := P) (W := W) em 40).1 t ks hks 10000 (by decide) [v] (by simp; omega)
    unfold asV at this
    rwa [if_neg (by rw [hag]; simp)] at this

theorem EntR.mono {W' : World} {ok' : Nat → Prop} (h : ∀ b, ok b → ok' b ∧ W'.heap[b]? = W.heap[b]?) {p : PV} {m : MapEntry} (r : EntR W ok p m) : EntR W' ok' p m := by
  obtain ⟨k, v, h1, h2, h3⟩ := r
  exact ⟨k, v, h1, h2.mono h, h3.mono h⟩

theorem entsR_get : ∀ {l : List PV} {ms : List MapEntry}, EntsR W ok l ms → l.length = ms.length ∧ ∀ (j : Nat) p m, l[j]? = some p → ms[j]? = some m → EntR W ok p m
  | [], [], _ => ⟨rfl, by simp⟩
  | [], _ :: _, h => h.elim
  | _ :: _, [], h => h.elim
  | p :: l, m :: ms, ⟨h1, h2⟩ => by
    obtain ⟨g1, g2⟩ := entsR_get h2
    refine ⟨by simp [g1], fun j p' m' h3 h4 => ?_⟩
    cases j with
    | zero => simp at h3 h4; subst h3 h4; exact h1
    | succ j => exact g2 j p' m' (by simpa using h3) (by simpa using h4)

end

section
variable {P : Program} {C : Cx} {n : Nat} {F : Nat → Prop} {s : St} {a : Act} {W : World} {hdr : Nat → Value} {ow : Nat → Option Nat} {id : Nat} {o : Oper}

theorem mrest_ent {H : Heap} {m : Nat} {rest : List PV} (h : mrest H m = some rest) : ∃ e g, find H m = some e ∧ e.sz = 0 ∧ e.fro = false ∧ e.l = g :: rest ∧ decM g = true := by
  unfold mrest at h
  split at h
  · rename_i e he
    split at h
    · rename_i hz
      split at h
      · rename_i g r hl
        split at h
        · rename_i hg; cases h; exact ⟨e, g, he, hz.1, hz.2, hl, hg⟩
        · cases h
      · cases h
    · cases h
  · cases h

/-- A map, as it lies. -/
theorem map_at (r : RelAt C n F s a W hdr ow) {m : Nat} {rest : List PV} (h : mrest s.heap m = some rest) :
    ∃ b es, ow m = some b ∧ hdr m = .map (some b) ∧ W.heap[b]? = some (.map es rest.length) ∧ es.size = rest.length ∧ EntsR W (OK C W s.heap ow) rest es.toList ∧ ∀ (j : Nat) x, es[j]? = some x → x.born = j := by
  obtain ⟨e, g, h1, h2, h3, h4, h5⟩ := mrest_ent h
  obtain ⟨b, es, q1, q2, q3, q4, q5⟩ := (r.mem.ent m e h1).map h2 h3 h4 h5
  refine ⟨b, es, q1, q2, q3, q4, entsR_of (q4.symm.trans Array.length_toList.symm) fun j p x hp hx => ?_, fun j x hx => ?_⟩
  · obtain ⟨_, k, v, g1, g2, g3⟩ := q5 j p x hp (by simpa using hx)
    exact ⟨k, v, g1, g2, g3⟩
  · have hj : j < rest.length := by rw [← q4]; exact (Array.getElem?_eq_some_iff.1 hx).1
    exact (q5 j rest[j] x (List.getElem?_eq_getElem hj) hx).1

theorem snd_mkM (r : RelAt C n F s a W hdr ow) (hid : ¬ F id) {t : TypeId} (ho : o.op = .makeMap t none) : Snd P C n F s a W id o (.h id) ((id, ⟨false, 0, [mkM]⟩) :: s.heap) := by
  refine ⟨.map (some W.heap.size), W.alloc (.map #[] 0), upd hdr id (.map (some W.heap.size)), upd ow id (some W.heap.size), .inl ?_, r.allocE hid (.map #[] 0) (.map (some W.heap.size)) ?_ ?_, ?_, fun j => men_h j⟩
  · simp [execOp, ho, Instr.makeMap]
  · refine .inr (.inr (.inr ⟨rfl, rfl, .inl ⟨mkM, [], W.heap.size, #[], rfl, rfl, rfl, rfl, heap_alloc_new W _, rfl, fun j p m h => by simp at h⟩⟩))
  · intro c hc; exact (Ent.refs_M rfl rfl rfl hc).elim
  · simp only [RepA]; intro e _; simp [upd]

theorem snd_mln (r : RelAt C n F s a W hdr ow) {as : Array Operand} {ts : Array TypeId} {x : Operand} {x' : Opd} {t kt e : TypeId} {m : Nat} {rest : List PV} (ho : o.op = .call { callee := .builtin .len, args := as, argTypes := ts })
    (has : as.toList = [x]) (hts : ts.toList = [t]) (hd : P.underlying t = some (.map kt e)) (hx : opd P t x = some x') (hu : ev s.env x' = some (.h m)) (hr : mrest s.heap m = some rest) : Snd P C n F s a W id o (.v (.w (.int .i64 rest.length))) s.heap := by
  have hux := (opd_ok r hx hu).1
  obtain ⟨en, g, h1, _⟩ := mrest_ent hr
  obtain ⟨b, es, q1, q2, q3, q4, _⟩ := map_at r hr
  simp only [RepA] at hux
  have hv := hux en h1
  rw [q2] at hv
  have e1 : as = #[x] := by apply Array.ext'; simpa using has
  have e2 : ts = #[t] := by apply Array.ext'; simpa using hts
  subst e1 e2
  refine Snd.scal r ?_ rfl
  simp [execOp, ho, resolve, invoke, builtin, Builtin.len_, run_underlying hd, hv, getMap q3, goInt, q4]

theorem snd_mlk (r : RelAt C n F s a W hdr ow) {x k : Operand} {x' k' : Opd} {t kt e t1 t2 : TypeId} {ok : Bool} {ks : List Bool} {z kp : PV} {m : Nat} {rest : List PV} {q : Option PV} (ho : o.op = .lookup t x k ok) (hd : P.underlying t = some (.map kt e))
    (hks : keyKs P 40 kt = some ks) (hz : zeroV P e = some z) (hx : opd P t1 x = some x') (hk : opd P t2 k = some k') (hu : ev s.env x' = some (.h m)) (hv : ev s.env k' = some (.v kp)) (hr : mrest s.heap m = some rest) (hok : kok (aggT P kt) ks kp = true)
    (hf : mfind (aggT P kt) ks kp rest = some q) : Snd P C n F s a W id o (if ok = true then .tup [.v (q.getD z), .v (.w (.bool q.isSome))] else .v (q.getD z)) s.heap := by
  have hux := (opd_ok r hx hu).1
  have hkx := (opd_ok r hk hv).1
  obtain ⟨en, g, h1, _⟩ := mrest_ent hr
  obtain ⟨b, es, q1, q2, q3, q4, q5, _⟩ := map_at r hr
  simp only [RepA] at hux hkx
  have hxv := hux en h1
  rw [q2] at hxv
  obtain ⟨pq, g1, g2⟩ := mfind_pos 0 hf
  obtain ⟨rr, g3, g4⟩ := run_find (P := P) hks hkx q5 g1
  have hchk := kok_chk (P := P) hks hkx hok
  have hval : ∃ v, RepV W (OK C W s.heap ow) (q.getD z) v ∧ ((∃ j, rr = some (j, v) ∧ q.isSome = true) ∨ (rr = none ∧ q.isSome = false ∧ (zeroValue e).run P W = .ok v W)) := by
    cases pq with
    | none =>
      cases rr with
      | some y => exact g4.elim
      | none =>
        simp at g2; subst g2
        unfold zeroV at hz
        split at hz
        · rename_i i hi
          obtain ⟨v, w1, w2⟩ := Option.bind_eq_some_iff.1 hz
          exact ⟨v, constP_ok w2, .inr ⟨rfl, rfl, run_zero hi w1 W⟩⟩
        · cases hz
    | some y =>
      cases rr with
      | none => exact g4.elim
      | some y' =>
        obtain ⟨j, p⟩ := y
        obtain ⟨j', v⟩ := y'
        simp at g2; subst g2
        exact ⟨v, g4.2, .inl ⟨j', rfl, rfl⟩⟩
  obtain ⟨v, hv2, hv1⟩ := hval
  have hrun : (Instr.lookup t (a.eval x) (a.eval k) ok).run P W = .ok (if ok = true then .tuple #[v, .bool q.isSome] else v) W := by
    unfold Instr.lookup
    rw [hxv]
    simp only [Sem.run_bind, run_underlying hd, Result.andThen_ok, getMap q3, Sem.run_pure, hchk, g3]
    rcases hv1 with ⟨j, rfl, h5⟩ | ⟨rfl, h5, h6⟩
    · simp [h5]
    · simp [h5, h6]
  refine Snd.pure r (v := if ok = true then .tuple #[v, .bool q.isSome] else v) ?_ ?_ ?_
  · simp [execOp, ho, hrun]
  · cases ok
    · simpa only [RepA, Bool.false_eq_true, if_false] using hv2
    · simp only [if_true, RepA]
      exact ⟨[v, .bool q.isSome], rfl, by simp only [RepAs]; exact ⟨hv2, RepV.w rfl, trivial⟩⟩
  · cases ok <;> simp [AV.men, AV.mens]

/-- The map's block, written. -/
theorem map_write (r : RelAt C n F s a W hdr ow) {m b : Nat} {rest rest' : List PV} {es es' : Array MapEntry} (h : mrest s.heap m = some rest) (q1 : ow m = some b) (q2 : hdr m = .map (some b)) (q3 : W.heap[b]? = some (.map es rest.length)) (h4 : es'.size = rest'.length)
    (h5 : EntsR W (OK C W s.heap ow) rest' es'.toList) (h6 : ∀ (j : Nat) x, es'[j]? = some x → x.born = j) :
    RelAt C n F { s with heap := setIn s.heap m ⟨false, 0, mkM :: rest'⟩ } a { W with heap := W.heap.setIfInBounds b (.map es' rest'.length) } hdr ow := by
  obtain ⟨e, g, h1, h2, h3, hl, hg⟩ := mrest_ent h
  obtain ⟨k1, k2⟩ := heap_put (w := W) (o' := .map es' rest'.length) q3
  refine r.writeE (e' := ⟨false, 0, mkM :: rest'⟩) h1 q1 h2.symm k2 (by simp) rfl rfl ⟨rfl, fun _ => Nat.le_refl _⟩ ?_ ?_
  · refine .inr (.inr (.inr ⟨rfl, rfl, .inl ⟨mkM, rest', b, es', rfl, rfl, rfl, q2, k1, h4, fun j p x hp hx => ?_⟩⟩))
    have hm : ∀ c, OK C W s.heap ow c → OK C W s.heap ow c ∧ (W.heap.setIfInBounds b (Obj.map es' rest'.length))[c]? = W.heap[c]? := fun c hc => ⟨hc, k2 c (by rintro rfl; exact hc.2 ⟨m, e, h1, q1⟩)⟩
    obtain ⟨k, v, g1, g2, g3⟩ := ((entsR_get h5).2 j p x hp (by simpa using hx)).mono (W' := { W with heap := W.heap.setIfInBounds b (.map es' rest'.length) }) hm
    exact ⟨h6 j x hx, k, v, g1, g2, g3⟩
  · intro c hc; exact (Ent.refs_M rfl rfl rfl hc).elim

theorem snd_mup (r : RelAt C n F s a W hdr ow) {x k y : Operand} {x' k' y' : Opd} {t kt e t1 t2 t3 : TypeId} {ks : List Bool} {kp p : PV} {m : Nat} {rest rest' : List PV} {u : AV} {H1 : Heap} {qq : Bool} (ho : o.op = .mapUpdate t x k y) (hd : P.underlying t = some (.map kt e))
    (hks : keyKs P 40 kt = some ks) (hx : opd P t1 x = some x') (hk : opd P t2 k = some k') (hy : opd P t3 y = some y') (hu : ev s.env x' = some (.h m)) (hv : ev s.env k' = some (.v kp)) (hw : ev s.env y' = some u) (hp : tov2 qq s.heap u = some (p, H1))
    (hr : mrest H1 m = some rest) (hok : kok (aggT P kt) ks kp = true) (hf : mset (aggT P kt) ks kp p rest = some rest') :
    ∃ W' ow', (execOp a.eval o).run P W = .ok .skip W' ∧ RelAt C n F { s with heap := setIn H1 m ⟨false, 0, mkM :: rest'⟩ } a W' hdr ow' := by
  have hvy := (opd_ok r hy hw).1
  obtain ⟨ow1, r1, hpv, _, _⟩ := tov2_ok r hvy hp
  have hux := (opd_ok r1 hx hu).1
  have hkx := (opd_ok r1 hk hv).1
  obtain ⟨en, g, h1, _⟩ := mrest_ent hr
  obtain ⟨b, es, q1, q2, q3, q4, q5, q6⟩ := map_at r1 hr
  simp only [RepA] at hux hkx
  have hxv := hux en h1
  rw [q2] at hxv
  obtain ⟨pq, g1, g2⟩ := mset_pos 0 hf
  obtain ⟨rr, g3, g4⟩ := run_find (P := P) hks hkx q5 g1
  have hchk := kok_chk (P := P) hks hkx hok
  cases pq with
  | none =>
    cases rr with
    | some y => exact g4.elim
    | none =>
      simp only at g2
      subst g2
      have hes : (es.push ⟨a.eval k, a.eval y, rest.length⟩).size = (rest ++ [PV.st [kp, p]]).length := by simp [q4]
      refine ⟨{ W with heap := W.heap.setIfInBounds b (.map (es.push ⟨a.eval k, a.eval y, rest.length⟩) (rest ++ [PV.st [kp, p]]).length) }, ow1, ?_, map_write r1 hr q1 q2 q3 hes ?_ ?_⟩
      · have hrun : (Instr.mapUpdate t (a.eval x) (a.eval k) (a.eval y)).run P W = .ok () { W with heap := W.heap.setIfInBounds b (.map (es.push ⟨a.eval k, a.eval y, rest.length⟩) (rest ++ [PV.st [kp, p]]).length) } := by
          unfold Instr.mapUpdate
          rw [hxv]
          simp only [Sem.run_bind, run_underlying hd, Result.andThen_ok, getMap q3, hchk, g3, setMap _ q3]
          try simp
        simp [execOp, ho, hrun]
      · refine entsR_of (hes.symm.trans Array.length_toList.symm) fun j p' x' hp' hx' => ?_
        simp only [Array.toList_push] at hx'
        rw [List.getElem?_append] at hp' hx'
        have hl := (entsR_get q5).1
        split at hp'
        · rename_i hj
          rw [if_pos (by omega)] at hx'
          exact (entsR_get q5).2 j p' x' hp' hx'
        · rename_i hj
          rw [if_neg (by omega)] at hx'
          have : j = rest.length := by
            have := (List.getElem?_eq_some_iff.1 hp').1
            simp at this; omega
          subst this
          rw [hl] at hx'
          simp at hp' hx'
          subst hp' hx'
          exact ⟨kp, p, rfl, hkx, hpv⟩
      · intro j x' hx'
        rw [Array.getElem?_push] at hx'
        split at hx'
        · cases hx'; simp only; omega
        · exact q6 j x' hx'
  | some y =>
    obtain ⟨j, v0⟩ := y
    cases rr with
    | none => exact g4.elim
    | some y' =>
      obtain ⟨j', vv⟩ := y'
      obtain ⟨rfl, g5⟩ := g4
      simp only [Nat.sub_zero] at g2
      obtain ⟨_, hj, rfl⟩ := g2
      obtain ⟨_, k1, hk1, hkk⟩ := mpos_key rest 0 j v0 g1
      rw [Nat.sub_zero] at hk1
      have hjs : j < es.size := by omega
      have hold := (entsR_get q5).2 j _ es[j] hk1 (by simp [hjs])
      obtain ⟨k2, v2, e1, hk2, _⟩ := hold
      injection e1 with e1; injection e1 with e1 e2; subst e1
      obtain ⟨e3, e4⟩ := keq_true hkx hk2 hkk
      have hes : (es.modify j fun e => { e with key := a.eval k, val := a.eval y }).size = (rest.set j (PV.st [kp, p])).length := by simp [q4]
      have hlen : (rest.set j (PV.st [kp, p])).length = rest.length := by simp
      have hstay : (Instr.keyThatStays (((es[j]?).map (·.key)).getD (a.eval k)) (a.eval k)).run P W = .ok (a.eval k) W := by
        unfold Instr.keyThatStays
        simp only [Array.getElem?_eq_getElem hjs, Option.map_some, Option.getD_some, ← e3, e4, if_pos]
        simp
      refine ⟨{ W with heap := W.heap.setIfInBounds b (.map (es.modify j fun e => { e with key := a.eval k, val := a.eval y }) (rest.set j (PV.st [kp, p])).length) }, ow1, ?_, map_write r1 hr q1 q2 q3 hes ?_ ?_⟩
      · have hrun : (Instr.mapUpdate t (a.eval x) (a.eval k) (a.eval y)).run P W = .ok () { W with heap := W.heap.setIfInBounds b (.map (es.modify j fun e => { e with key := a.eval k, val := a.eval y }) (rest.set j (PV.st [kp, p])).length) } := by
          unfold Instr.mapUpdate
          rw [hxv, hlen]
          simp only [Sem.run_bind, run_underlying hd, Result.andThen_ok, getMap q3, hchk, g3, hstay, setMap _ q3]
        simp [execOp, ho, hrun]
      · refine entsR_of (hes.symm.trans Array.length_toList.symm) fun i p' x' hp' hx' => ?_
        rw [Array.getElem?_toList, Array.getElem?_modify] at hx'
        rw [List.getElem?_set] at hp'
        by_cases hij : j = i
        · subst hij
          rw [if_pos rfl, if_pos hj] at hp'
          rw [if_pos rfl, Array.getElem?_eq_getElem hjs] at hx'
          simp at hp' hx'
          subst hp' hx'
          exact ⟨kp, p, rfl, hkx, hpv⟩
        · rw [if_neg hij] at hp'
          rw [if_neg hij] at hx'
          exact (entsR_get q5).2 i p' x' hp' (by simpa using hx')
      · intro i x' hx'
        rw [Array.getElem?_modify] at hx'
        split at hx'
        · obtain ⟨x0, h0, rfl⟩ := Option.map_eq_some_iff.1 hx'
          exact q6 i x0 h0
        · exact q6 i x' hx'


/-- An iterator, as it lies. -/
theorem iter_at (r : RelAt C n F s a W hdr ow) {i m k : Nat} {seen : List PV} (h : irest s.heap i = some (m, k, seen)) :
    ∃ e g b bm sn, find s.heap i = some e ∧ e.sz = 0 ∧ e.fro = false ∧ e.l = g :: seen ∧ decI g = some (m, k) ∧ ow i = some b ∧ hdr i = .pointer (some ⟨b, 0, none⟩) ∧ hdr m = .map (some bm) ∧ W.heap[b]? = some (.mapIter (some bm) k sn k) ∧ seen = sn.toList.map fun j => .w (.int .i64 j) := by
  unfold irest at h
  split at h
  · rename_i e he
    split at h
    · rename_i hz
      split at h
      · rename_i g rest hl
        obtain ⟨⟨m', k'⟩, h1, h2⟩ := Option.map_eq_some_iff.1 h
        cases h2
        obtain ⟨b, bm, sn, q1, q2, q3, q4, q5⟩ := (r.mem.ent i e he).iter hz.1 hz.2 hl h1
        exact ⟨e, g, b, bm, sn, he, hz.1, hz.2, hl, h1, q1, q2, q3, q4, q5⟩
      · cases h
    · cases h
  · cases h

theorem getIter {P : Program} {b : Nat} {m : Option Nat} {s1 s2 : Nat} {sn : Array Nat} (h : W.heap[b]? = some (.mapIter m s1 sn s2)) : (getObj b).run P W = .ok (.mapIter m s1 sn s2) W := by simp [getObj, Sem.run, h]
theorem setIter {P : Program} {b : Nat} {m : Option Nat} {s1 s2 : Nat} {sn : Array Nat} (ob : Obj) (h : W.heap[b]? = some (.mapIter m s1 sn s2)) : (setObj b ob).run P W = .ok () { W with heap := W.heap.setIfInBounds b ob } := by simp [setObj, Sem.run, h]

theorem snd_rng (r : RelAt C n F s a W hdr ow) (hid : ¬ F id) {x : Operand} {x' : Opd} {t kt e t1 : TypeId} {m : Nat} {rest : List PV} (ho : o.op = .range t x) (hd : P.underlying t = some (.map kt e)) (hx : opd P t1 x = some x') (hu : ev s.env x' = some (.h m)) (hr : mrest s.heap m = some rest) :
    Snd P C n F s a W id o (.h id) ((id, ⟨false, 0, [mkI m rest.length]⟩) :: s.heap) := by
  have hux := (opd_ok r hx hu).1
  obtain ⟨en, g, h1, _⟩ := mrest_ent hr
  obtain ⟨b, es, q1, q2, q3, q4, q5, q6⟩ := map_at r hr
  simp only [RepA] at hux
  have hxv := hux en h1
  rw [q2] at hxv
  have hne : m ≠ id := by rintro rfl; exact hid (r.idsH _ _ h1)
  refine ⟨.pointer (some ⟨W.heap.size, 0, none⟩), W.alloc (.mapIter (some b) rest.length #[] rest.length), upd hdr id (.pointer (some ⟨W.heap.size, 0, none⟩)), upd ow id (some W.heap.size), .inl ?_, r.allocE hid _ _ ?_ ?_, ?_, fun j => men_h j⟩
  · simp [execOp, ho, Instr.range, run_underlying hd, hxv, getMap q3]
  · refine .inr (.inr (.inr ⟨rfl, rfl, .inr ⟨mkI m rest.length, [], W.heap.size, m, rest.length, b, #[], rfl, by simp [decI], rfl, rfl, ?_, heap_alloc_new W _, rfl⟩⟩))
    simp only [upd, if_neg hne]; exact q2
  · intro c hc
    have := (Ent.refs_I (e := ⟨false, 0, [mkI m rest.length]⟩) (g := mkI m rest.length) (m := m) (n := rest.length) rfl rfl (by simp [decI])).1 hc
    subst this
    exact r.idsH _ _ h1
  · simp only [RepA]; intro e _; simp [upd]

theorem snd_ent (r : RelAt C n F s a W hdr ow) {x : Operand} {x' : Opd} {t1 : TypeId} {i m k : Nat} {seen rest : List PV} {kk : IntKind} {j : Int} {p v : PV} (ho : o.op = .entry x) (hx : opd P t1 x = some x') (hu : ev s.env x' = some (.h i)) (hi : irest s.heap i = some (m, k, seen))
    (hr : mrest s.heap m = some rest) (hl : seen.getLast? = some (.w (.int kk j))) (hlen : rest.length = k) (hj : rest[j.toNat]? = some (.st [p, v])) : Snd P C n F s a W id o (.tup [.v p, .v v]) s.heap := by
  have hux := (opd_ok r hx hu).1
  obtain ⟨e, g, b, bm, sn, h1, _, _, _, _, _, h2, h3, h4, h5⟩ := iter_at r hi
  obtain ⟨b', es, q1, q2, q3, q4, q5, q6⟩ := map_at r hr
  simp only [RepA] at hux
  have hxv := hux e h1
  rw [h2] at hxv
  rw [q2] at h3; cases h3
  subst hlen
  obtain ⟨j0, hj0, hj1⟩ : ∃ j0, sn.back? = some j0 ∧ j = j0 := by
    rw [h5, List.getLast?_map] at hl
    obtain ⟨j0, h6, h7⟩ := Option.map_eq_some_iff.1 hl
    refine ⟨j0, by rw [← Array.getLast?_toList]; exact h6, ?_⟩
    injection h7 with h7; injection h7 with _ h7; exact h7.symm
  subst hj1
  rw [Int.toNat_natCast] at hj
  have hjl : j0 < es.size := by rw [q4]; exact (List.getElem?_eq_some_iff.1 hj).1
  obtain ⟨k2, v2, e1, g1, g2⟩ := (entsR_get q5).2 j0 _ es[j0] hj (by simp [hjl])
  injection e1 with e1; injection e1 with e1 e2; injection e2 with e2; subst e1 e2
  have hfind : es.find? (fun x => x.born == j0) = some es[j0] := by
    rw [Array.find?_eq_some_iff_getElem]
    refine ⟨by simp [q6 j0 es[j0] (Array.getElem?_eq_getElem hjl)], j0, hjl, rfl, fun i hi => ?_⟩
    simp [q6 i es[i] (Array.getElem?_eq_getElem (by omega))]; omega
  refine Snd.pure r (v := .tuple #[es[j0].key, es[j0].val]) ?_ ?_ (by simp [AV.men, AV.mens])
  · simp [execOp, ho, Instr.entry, hxv, getIter h4, getMap q3, hj0, hfind]
  · simp only [RepA]
    exact ⟨_, rfl, by simp only [RepAs, RepA]; exact ⟨g1, g2, trivial⟩⟩

end
end Go.AM
/- Whatever the program's operation is: if it is read, and the reading comes to something, it goes through. -/
set_option linter.all false
namespace Go.AM
open Go
variable [dr : Inhabited Prop]

section
variable {P : Program} {C : Cx} {n : Nat} {F : Nat → Prop} {s : St} {a : Act} {W : World} {hdr : Nat → Value} {ow : Nat → Option Nat} {id : Nat} {o : Oper} {ows : List Nat}

theorem snd_cMv {q : Bool} (r : RelAt C n F s a W hdr ow) (hid : ¬ F id) {x : Operand} {m : MOp} {u : AV} {H' : Heap} (ho : o.op = .move x ∨ o.op = .assign x) (hc : cMv P x o.type = some m) (hm : mval q s.env s.heap id m = some (u, H')) : Snd P C n F s a W id o u H' := by
  have hplain : ∀ y, opd P o.type x = some y → m = .mv y → Snd P C n F s a W id o u H' := by
    intro y hy h
    subst h
    simp only [mval, Option.map_eq_some_iff, Prod.mk.injEq] at hm
    obtain ⟨v, hv, rfl, rfl⟩ := hm
    exact snd_mv r ho hy hv
  unfold cMv at hc
  split at hc
  · rename_i v
    split at hc
    · rename_i hn
      obtain ⟨e, he, rfl⟩ := Option.map_eq_some_iff.1 hc
      simp only [mval, Option.some.injEq, Prod.mk.injEq] at hm
      obtain ⟨rfl, rfl⟩ := hm
      exact snd_nilS r hid ho hn
    · obtain ⟨y, hy, h⟩ := Option.map_eq_some_iff.1 hc
      exact hplain y hy h.symm
  · obtain ⟨y, hy, h⟩ := Option.map_eq_some_iff.1 hc
    exact hplain y hy h.symm

/-- What a store comes to. -/
theorem store_core {q : Bool} (r : RelAt C n F s a W hdr ow) {t : TypeId} {x y : Operand} {m : MOp} {u : AV} {H' : Heap} (ho : o.op = .store t x y) (hc : cOp P ows o = some m) (hm : mval q s.env s.heap id m = some (u, H')) :
    u = .u ∧ ∃ W' ow', (execOp a.eval o).run P W = .ok .skip W' ∧ RelAt C n F { s with heap := H' } a W' hdr ow' := by
  unfold cOp at hc
  rw [ho] at hc
  simp only at hc
  split at hc
  · rename_i x' y' h1 h2
    split at hc
    · rename_i hk2
      have hk := hk2.1
      have hplain : m = .stt (aggT P t) (szT P t) x' y' → u = .u ∧ ∃ W' ow', (execOp a.eval o).run P W = .ok .skip W' ∧ RelAt C n F { s with heap := H' } a W' hdr ow' := by
        rintro rfl
        have hz0 := hk2.2
        simp only [mval] at hm
        rw [if_neg hz0] at hm
        split at hm
        · rename_i k i off p H1 hv hp
          obtain ⟨w, hw, hp⟩ := Option.bind_eq_some_iff.1 hp
          split at hm
          · rename_i e he
            split at hm
            · rename_i hz
              split at hm
              · rename_i hcc
                unfold sttM at hm
                split at hm
                · rename_i g rest hl
                  split at hm
                  · rename_i hd
                    obtain ⟨_, rfl, d3, d4, d5⟩ := hd
                    split at hm
                    · rename_i hrf
                      simp only [Option.some.injEq, Prod.mk.injEq] at hm
                      obtain ⟨rfl, rfl⟩ := hm
                      exact ⟨rfl, sttM_core r ho hk h1 h2 hv hw hp he d3 hz hl hrf hcc.2 d4 d5 (g' := .st []) (rf' := none) (by simp [decR]) (by intro _ _ h; cases h) (by intro _ _ h; cases h)⟩
                    · rename_i j c hrf
                      split at hm
                      · rename_i hin
                        simp only [Option.some.injEq, Prod.mk.injEq] at hm
                        obtain ⟨rfl, rfl⟩ := hm
                        exact ⟨rfl, sttM_core r ho hk h1 h2 hv hw hp he d3 hz hl hrf hcc.2 d4 d5 (g' := .st []) (rf' := none) (by simp [decR]) (by intro _ _ h; cases h) (by intro i c h; simp at h; rw [← h.1]; exact .inr hin)⟩
                      · rename_i hin
                        simp only [Option.some.injEq, Prod.mk.injEq] at hm
                        obtain ⟨rfl, rfl⟩ := hm
                        exact ⟨rfl, sttM_core r ho hk h1 h2 hv hw hp he d3 hz hl hrf hcc.2 d4 d5 (g' := encR j c) (rf' := some (j, c)) (by simp [decR]) (by intro i c h; simp at h; rw [← h.1, ← h.2]; exact ⟨rfl, hin⟩) (by intro i c h; exact .inl h)⟩
                    · cases hm
                  · cases hm
                · cases hm
              · cases hm
            rename_i hz0
            split at hm
            · rename_i w' hq
              split at hm
              · rename_i hh
                obtain ⟨g1, g2, g3, g4, g5, _, g6⟩ := hh
                simp only [Option.some.injEq, Prod.mk.injEq] at hm
                obtain ⟨rfl, rfl⟩ := hm
                exact ⟨rfl, stt_core r ho hk h1 h2 hv hw hp he hq g1 g3 g4 g5 g6⟩
              · cases hm
            · cases hm
          · cases hm
        · cases hm
      split at hc
      · rename_i d
        split at hc
        · rename_i hh
          cases hc
          simp only [mval, if_true] at hm
          split at hm
          · rename_i k i off c hv hw
            unfold sttN at hm
            split at hm
            · rename_i e ec he hec
              split at hm
              · rename_i g rest hl
                split at hm
                · rename_i hcc
                  obtain ⟨_, rfl, c3, c4, c5, c6⟩ := hcc
                  split at hm
                  · rename_i hrf
                    simp only [Option.some.injEq, Prod.mk.injEq] at hm
                    obtain ⟨rfl, rfl⟩ := hm
                    obtain ⟨W', g1, g2⟩ := sttN_core r ho hk hh.2.1 h1 h2 hv hw he hec c3 c4 c5 hl hrf c6 (fun i c h => by cases h)
                    exact ⟨rfl, W', ow, g1, g2⟩
                  · rename_i j c0 hrf
                    split at hm
                    · rename_i hjo
                      simp only [Option.some.injEq, Prod.mk.injEq] at hm
                      obtain ⟨rfl, rfl⟩ := hm
                      obtain ⟨W', g1, g2⟩ := sttN_core r ho hk hh.2.1 h1 h2 hv hw he hec c3 c4 c5 hl hrf c6 (fun i c h => by simp at h; rw [← h.1]; exact hjo)
                      exact ⟨rfl, W', ow, g1, g2⟩
                    · cases hm
                  · split at hm
                    · rename_i c0 hd
                      simp only [Option.some.injEq, Prod.mk.injEq] at hm
                      obtain ⟨rfl, rfl⟩ := hm
                      obtain ⟨W', g1, g2⟩ := sttD_core r ho hk hh.2.1 h1 h2 hv hw he hec c3 c4 c5 hl hd c6 (fun i c h => by cases h)
                      exact ⟨rfl, W', ow, g1, g2⟩
                    · rename_i c0 j _ hd
                      split at hm
                      · rename_i hjo
                        simp only [Option.some.injEq, Prod.mk.injEq] at hm
                        obtain ⟨rfl, rfl⟩ := hm
                        obtain ⟨W', g1, g2⟩ := sttD_core r ho hk hh.2.1 h1 h2 hv hw he hec c3 c4 c5 hl hd c6 (fun i c h => by simp at h; rw [← h.1]; exact hjo)
                        exact ⟨rfl, W', ow, g1, g2⟩
                      · cases hm
                    · cases hm
                · cases hm
              · cases hm
            · cases hm
          · cases hm
        · exact hplain (by cases hc; rfl)
      · exact hplain (by cases hc; rfl)
    · cases hc
  · cases hc

theorem mup_core {q : Bool} (r : RelAt C n F s a W hdr ow) {t : TypeId} {x k y : Operand} {m : MOp} {u : AV} {H' : Heap} (ho : o.op = .mapUpdate t x k y) (hc : cOp P ows o = some m) (hm : mval q s.env s.heap id m = some (u, H')) :
    u = .u ∧ ∃ W' ow', (execOp a.eval o).run P W = .ok .skip W' ∧ RelAt C n F { s with heap := H' } a W' hdr ow' := by
  unfold cOp at hc
  rw [ho] at hc
  simp only at hc
  split at hc
  · rename_i kt e hd
    split at hc
    · rename_i ks x' k' y' hks h1 h2 h3
      cases hc
      simp only [mval] at hm
      split at hm
      · rename_i m kp p H1 hu hv hw
        split at hm
        · rename_i rest hr
          split at hm
          · rename_i hok
            obtain ⟨rest', hf, hm⟩ := Option.map_eq_some_iff.1 hm
            cases hm
            obtain ⟨u, hw1, hw2⟩ := Option.bind_eq_some_iff.1 hw
            obtain ⟨W', ow', g1, g2⟩ := snd_mup r ho hd hks h1 h2 h3 hu hv hw1 hw2 hr hok.2 hf
            exact ⟨rfl, W', ow', g1, g2⟩
          · cases hm
        · cases hm
      · cases hm
    · cases hc
  · cases hc

theorem snd_all {q : Bool} (r : RelAt C n F s a W hdr ow) (hid : ¬ F id) {m : MOp} {u : AV} {H' : Heap} (hc : cOp P ows o = some m) (hm : mval q s.env s.heap id m = some (u, H')) : Snd P C n F s a W id o u H' := by
  have hc0 := hc
  unfold cOp at hc
  split at hc
  · rename_i x ho; exact snd_cMv r hid (.inl ho) hc hm
  · rename_i x ho; exact snd_cMv r hid (.inr ho) hc hm
  · rename_i c x y ho
    split at hc
    · rename_i c' x' y' h1 h2 h3
      cases hc
      simp only [mval] at hm
      split at hm
      · rename_i t ht
        simp only [Option.map_eq_some_iff, Prod.mk.injEq] at hm
        obtain ⟨v, hv, rfl, rfl⟩ := hm
        exact snd_pick r ho h1 h2 h3 ht hv
      · cases hm
    · cases hc
  · rename_i op t x y t' ho
    split at hc
    · rename_i x' y' h1 h2
      split at hc
      · rename_i hb
        split at hc
        · cases hc
          simp only [mval] at hm
          split at hm
          · rename_i i j hv hw
            cases hm
            exact snd_eqb (ng := false) r ho hb h1 h2 hv hw
          · cases hm
        · cases hc
          simp only [mval] at hm
          split at hm
          · rename_i i j hv hw
            cases hm
            exact snd_eqb (ng := true) r ho hb h1 h2 hv hw
          · cases hm
        · cases hc
      · rename_i fs hb
        split at hc
        · rename_i ks hks
          split at hc
          · rename_i hst
            split at hc
            · cases hc
              simp only [mval] at hm
              split at hm
              · rename_i cs ds hv hw
                simp only [Option.map_eq_some_iff, Prod.mk.injEq] at hm
                obtain ⟨rb, hrb, rfl, rfl⟩ := hm
                exact snd_eqS (ng := false) r ho hb hks hst.1 hst.2 h1 h2 hv hw hrb
              · cases hm
            · cases hc
              simp only [mval] at hm
              split at hm
              · rename_i cs ds hv hw
                simp only [Option.map_eq_some_iff, Prod.mk.injEq] at hm
                obtain ⟨rb, hrb, rfl, rfl⟩ := hm
                exact snd_eqS (ng := true) r ho hb hks hst.1 hst.2 h1 h2 hv hw hrb
              · cases hm
            · cases hc
          · cases hc
        · cases hc
      · rename_i m0 e hb
        split at hc
        · rename_i hst
          obtain ⟨hk0, hst1, hst2, hst3⟩ := hst
          have hk1 : ∃ kk, P.underlying e = some (.int kk) := by
            unfold intElem at hk0
            split at hk0
            · rename_i kk hkk; exact ⟨kk, hkk⟩
            · cases hk0
          split at hc
          · cases hc
            simp only [mval] at hm
            split at hm
            · rename_i cs ds hv hw
              simp only [Option.map_eq_some_iff, Prod.mk.injEq] at hm
              obtain ⟨rb, hrb, rfl, rfl⟩ := hm
              exact snd_eqA (ng := false) r ho hb hk1 hst1 hst2 hst3 h1 h2 hv hw hrb
            · cases hm
          · cases hc
            simp only [mval] at hm
            split at hm
            · rename_i cs ds hv hw
              simp only [Option.map_eq_some_iff, Prod.mk.injEq] at hm
              obtain ⟨rb, hrb, rfl, rfl⟩ := hm
              exact snd_eqA (ng := true) r ho hb hk1 hst1 hst2 hst3 h1 h2 hv hw hrb
            · cases hm
          · cases hc
        · cases hc
      · rename_i e hb
        have key : ∀ ng : Bool, o.op = .binOp (if ng = true then .neq else .eql) t x y t' → isNilC y = true → mval q s.env s.heap id (.nilq ng x') = some (u, H') → Snd P C n F s a W id o u H' := by
          intro ng ho' hy hm
          simp only [mval] at hm
          split at hm
          · rename_i hv
            simp only [Option.some.injEq, Prod.mk.injEq] at hm
            obtain ⟨rfl, rfl⟩ := hm
            exact snd_nilq r ho' hb hy h1 hv (.inl ⟨rfl, rfl⟩)
          · rename_i u' _ hv
            split at hm
            · rename_i sz l hr
              simp only [Option.some.injEq, Prod.mk.injEq] at hm
              obtain ⟨rfl, rfl⟩ := hm
              exact snd_nilq r ho' hb hy h1 hv (.inr ⟨sz, l, hr, rfl⟩)
            · cases hm
          · cases hm
        split at hc
        · rename_i hy
          split at hc
          · cases hc; exact key false ho hy hm
          · cases hc; exact key true ho hy hm
          · cases hc
        · cases hc
      · cases hc
        simp only [mval] at hm
        split at hm
        · rename_i v w hv hw
          simp only [Option.map_eq_some_iff, Prod.mk.injEq] at hm
          obtain ⟨z, hz, rfl, rfl⟩ := hm
          exact snd_bin r ho h1 h2 hv hw hz
        · cases hm
    · cases hc
  · rename_i op t x ho
    obtain ⟨x', h1, rfl⟩ := Option.map_eq_some_iff.1 hc
    simp only [mval] at hm
    split at hm
    · rename_i v hv
      simp only [Option.map_eq_some_iff, Prod.mk.injEq] at hm
      obtain ⟨z, hz, rfl, rfl⟩ := hm
      exact snd_un r ho h1 hv hz
    · cases hm
  · rename_i t ho
    split at hc
    · rename_i z hz
      split at hc
      · rename_i ha
        split at hc
        · cases hc
          simp only [mval, Option.some.injEq, Prod.mk.injEq] at hm
          obtain ⟨rfl, rfl⟩ := hm
          exact snd_alcN r hid ho hz
        · cases hc
          simp only [mval, Option.some.injEq, Prod.mk.injEq] at hm
          obtain ⟨rfl, rfl⟩ := hm
          exact snd_alloc r hid ho hz ha.1 ha.2
      · cases hc
    · cases hc
  · rename_i t x ho
    obtain ⟨x', h1, rfl⟩ := Option.map_eq_some_iff.1 hc
    simp only [mval] at hm
    split at hm
    · rename_i p H1 hp
      obtain ⟨v, hv, hp⟩ := Option.bind_eq_some_iff.1 hp
      split at hm
      · cases hm
      · rename_i hz
        simp only [Option.some.injEq, Prod.mk.injEq] at hm
        obtain ⟨rfl, rfl⟩ := hm
        exact snd_box r hid ho h1 hv hp hz
    · cases hm
  · rename_i t ps ho
    split at hc
    · rename_i fs z hd hz
      obtain ⟨qs, h1, hc⟩ := Option.bind_eq_some_iff.1 hc
      split at hc
      · rename_i hk
        cases hc
        simp only [mval, Option.map_eq_some_iff, Prod.mk.injEq] at hm
        obtain ⟨⟨cs, H1⟩, hb, rfl, rfl⟩ := hm
        exact snd_build_s r ho hd hz h1 hk hb
      · cases hc
    · rename_i m' e z hd hz
      obtain ⟨qs, h1, hc⟩ := Option.bind_eq_some_iff.1 hc
      split at hc
      · rename_i hk
        cases hc
        simp only [mval, Option.map_eq_some_iff, Prod.mk.injEq] at hm
        obtain ⟨⟨cs, H1⟩, hb, rfl, rfl⟩ := hm
        exact snd_build_a r ho hd hz h1 hk hb
      · cases hc
    · cases hc
  · rename_i t n' ps ho
    split at hc
    · rename_i e he
      split at hc
      · rename_i z hz
        split at hc
        · rename_i hh
          obtain ⟨g1, g2, g3, g4, g5⟩ := hh
          obtain ⟨qs, h1, hqs⟩ := Option.map_eq_some_iff.1 hc
          have hd : P.underlying t = some (.slice e) := by
            unfold elemT at he; split at he <;> simp_all
          split at hqs
          · subst hqs
            simp only [mval] at hm
            rw [if_neg g3] at hm
            simp only [Option.map_eq_some_iff, Prod.mk.injEq] at hm
            obtain ⟨⟨l, H1⟩, hb, rfl, rfl⟩ := hm
            have hS := snd_buildS (qq := true) r hid ho hd hz g4 g2 g3 g1 g5 h1 hb
            rw [buildL_true _ _ _ _ _ hb] at hS
            exact snd_frz hid r g3 hS
          · subst hqs
            simp only [mval, Option.map_eq_some_iff, Prod.mk.injEq] at hm
            obtain ⟨⟨l, H1⟩, hb, rfl, rfl⟩ := hm
            exact snd_buildS r hid ho hd hz g4 g2 g3 g1 g5 h1 hb
        · cases hc
      · cases hc
    · cases hc
  · rename_i t x ho
    split at hc
    · rename_i hk
      obtain ⟨x', h1, hc⟩ := Option.map_eq_some_iff.1 hc
      split at hc
      · rename_i hraw
        subst hc
        simp only [mval] at hm
        split at hm
        · rename_i k i off hv
          split at hm
          · rename_i e he
            split at hm
            · rename_i hz
              exact snd_ldSR r ho hk hraw.1 h1 hv he hz.1 hz.2 hm
            · cases hm
          · cases hm
        · cases hm
      subst hc
      simp only [mval] at hm
      split at hm
      · rename_i cs hv
        simp only [Option.map_eq_some_iff, Prod.mk.injEq] at hm
        obtain ⟨p, hp, rfl, rfl⟩ := hm
        exact snd_ld_r r ho hk h1 hv hp
      · rename_i k i off hv
        split at hm
        · rename_i e he
          split at hm
          · rename_i hz
            split at hm
            · rename_i hf
              split at hm
              · rename_i hag
                exact snd_ldS r ho hk hag h1 hv he hz hf hm
              obtain ⟨w, hmx, hw⟩ := Option.map_eq_some_iff.1 hm
              simp only [Prod.mk.injEq] at hw
              obtain ⟨rfl, rfl⟩ := hw
              clear hm
              have hm := hmx
              clear hmx
              unfold ldX at hm
              split at hm
              · rename_i g rest hl
                split at hm
                · rename_i hc'
                  obtain ⟨c1, c2, rfl⟩ := hc'
                  split at hm
                  · rename_i j c p hrf hp
                    obtain ⟨k1, k2⟩ := snd_ld_n r ho hk c1 h1 hv he hz hf hl hrf hp (id := id)
                    split at hm
                    · rename_i hoj
                      split at hm
                      · cases hm
                      · cases hm
                        exact k1 c (by rw [hoj])
                    · rename_i hoj
                      split at hm
                      · cases hm
                      · rename_i hs
                        cases hm
                        exact k2 (fun i c' h => by simp at h; rw [← h.1]; exact hoj) (by simpa using hs)
                  · rename_i p hrf hp
                    obtain ⟨k1, k2⟩ := snd_ld_n r ho hk c1 h1 hv he hz hf hl hrf hp (id := id)
                    split at hm
                    · cases hm
                    · rename_i hs
                      cases hm
                      exact k2 (fun i c' h => by cases h) (by simpa using hs)
                  · rename_i p hrf hp
                    split at hm
                    · rename_i c0 ov hd
                      split at hm
                      · cases hm
                      · cases hm
                        exact snd_ld_d r ho hk c1 h1 hv he hz hf hl hd (List.getElem?_eq_some_iff.1 hp).1
                    · cases hm
                  · cases hm
                · cases hm
              · cases hm
            · cases hm
          · split at hm
            · rename_i w hq
              split at hm
              · rename_i hlt
                simp only [Option.map_eq_some_iff, Prod.mk.injEq] at hm
                obtain ⟨p, hp, rfl, rfl⟩ := hm
                exact snd_ld_p r ho hk h1 hv he hq hlt hp
              · cases hm
            · cases hm
        · cases hm
      · cases hm
    · cases hc
  · rename_i t x y ho
    obtain ⟨rfl, W', ow', g1, g2⟩ := store_core r ho hc0 hm
    exact ⟨undef, _, _, _, .inr ⟨g1, rfl⟩, g2.monoF fun i h => .inl h, by simp [RepA], by simp [AV.men]⟩
  · rename_i x ho
    obtain ⟨x', h1, rfl⟩ := Option.map_eq_some_iff.1 hc
    simp only [mval] at hm
    split at hm
    · rename_i k i off hv
      split at hm
      · rename_i hk
        simp only [Option.some.injEq, Prod.mk.injEq] at hm
        obtain ⟨rfl, rfl⟩ := hm
        exact snd_chkP r ho h1 hv hk
      · cases hm
    · rename_i cs hv
      simp only [Option.some.injEq, Prod.mk.injEq] at hm
      obtain ⟨rfl, rfl⟩ := hm
      exact snd_chk r ho h1 hv (.inl ⟨_, rfl⟩)
    · rename_i f cs hv
      simp only [Option.some.injEq, Prod.mk.injEq] at hm
      obtain ⟨rfl, rfl⟩ := hm
      exact snd_chk r ho h1 hv (.inr ⟨_, _, rfl⟩)
    · cases hm
  · rename_i t t' x ho
    split at hc
    · rename_i k0 k hd hd'
      obtain ⟨x', h1, rfl⟩ := Option.map_eq_some_iff.1 hc
      simp only [mval] at hm
      split at hm
      · rename_i k' i hv
        simp only [Option.some.injEq, Prod.mk.injEq] at hm
        obtain ⟨rfl, rfl⟩ := hm
        exact snd_conv r ho hd hd' h1 hv
      · cases hm
    · rename_i hd hd'
      obtain ⟨x', h1, rfl⟩ := Option.map_eq_some_iff.1 hc
      simp only [mval] at hm
      split at hm
      · rename_i b hv
        simp only [Option.some.injEq, Prod.mk.injEq] at hm
        obtain ⟨rfl, rfl⟩ := hm
        exact snd_convS r ho hd hd' h1 hv ⟨_, rfl⟩
      · cases hm
    · cases hc
  · rename_i t x ho
    split at hc
    · cases hc
    · rename_i d hn hd
      obtain ⟨x', h1, rfl⟩ := Option.map_eq_some_iff.1 hc
      simp only [mval] at hm
      split at hm
      · rename_i u' hu
        simp only [Option.map_eq_some_iff, Prod.mk.injEq] at hm
        obtain ⟨⟨p, H2⟩, hp, rfl, rfl⟩ := hm
        exact snd_mki r ho hd (fun ms h => hn ms h) h1 hu hp
      · cases hm
    · cases hc
  · rename_i x xt t ok ho
    split at hc
    · cases hc
    · rename_i d z hn hd hz
      obtain ⟨x', h1, rfl⟩ := Option.map_eq_some_iff.1 hc
      have hn' : ∀ ms, d ≠ .interface ms := fun ms h => hn ms h
      simp only [mval] at hm
      split at hm
      · rename_i t' p hu
        split at hm
        · rename_i he
          simp only [Option.some.injEq, Prod.mk.injEq] at hm
          obtain ⟨rfl, rfl⟩ := hm
          exact snd_asrt r ho hd hn' hz h1 (.inl ⟨t', p, hu, .inl ⟨he, rfl⟩⟩)
        · rename_i he
          split at hm
          · rename_i hok
            simp only [Option.some.injEq, Prod.mk.injEq] at hm
            obtain ⟨rfl, rfl⟩ := hm
            exact snd_asrt r ho hd hn' hz h1 (.inl ⟨t', p, hu, .inr ⟨he, hok, rfl⟩⟩)
          · cases hm
      · rename_i hu
        split at hm
        · rename_i hok
          simp only [Option.some.injEq, Prod.mk.injEq] at hm
          obtain ⟨rfl, rfl⟩ := hm
          exact snd_asrt r ho hd hn' hz h1 (.inr ⟨hu, hok, rfl⟩)
        · cases hm
      · cases hm
    · cases hc
  · rename_i f fi caps ho
    split at hc
    · rename_i hf
      obtain ⟨ys, h1, rfl⟩ := Option.map_eq_some_iff.1 hc
      simp only [mval, Option.map_eq_some_iff, Prod.mk.injEq] at hm
      obtain ⟨l, hl, rfl, rfl⟩ := hm
      exact snd_mkf r ho hf h1 hl
    · cases hc
  · rename_i t x y ho
    split at hc
    · rename_i e he
      split at hc
      · rename_i z i x' y' hz hi h1 h2
        split at hc
        · rename_i hh
          obtain ⟨g1, g2, g3, hk⟩ := hh
          cases hc
          have hd : P.underlying t = some (.slice e) := by
            unfold elemT at he; split at he <;> simp_all
          simp only [mval] at hm
          split at hm
          · rename_i n' c' hn hc'
            split at hm
            · rename_i hb
              obtain ⟨b1, b2, b3, b4⟩ := hb
              simp only [Option.some.injEq, Prod.mk.injEq] at hm
              obtain ⟨rfl, rfl⟩ := hm
              exact snd_mkS r hid ho hd hz hi hk g1 g2 g3 h1 h2 hn hc' b1 b2 b3 b4
            · cases hm
          · cases hm
        · cases hc
      · cases hc
    · cases hc
  · rename_i t x lo hi mx ho
    split at hc
    · rename_i hd
      split at hc
      · rename_i x' lo' hi' h1 h2 h3
        cases hc
        simp only [mval] at hm
        split at hm
        · rename_i b hv
          simp only [Option.map_eq_some_iff, Prod.mk.injEq] at hm
          obtain ⟨⟨i, j⟩, hb, rfl, rfl⟩ := hm
          exact snd_sls r ho hd h1 h2 h3 hv hb
        · cases hm
      · cases hc
    · rename_i e hd
      split at hc
      · rename_i hk
        split at hc
        · split at hc
          · rename_i x' lo' hi' d h1 h2 h3 h4
            split at hc
            · cases hc
              simp only [mval] at hm
              split at hm
              · rename_i k hv
                split at hm
                · rename_i en he
                  split at hm
                  · rename_i i j hb
                    split at hm
                    · rename_i hh
                      obtain ⟨_, c1, c2, c3, c4⟩ := hh
                      simp only [Option.some.injEq, Prod.mk.injEq] at hm
                      obtain ⟨rfl, rfl⟩ := hm
                      exact snd_slcP r ho hd hk h1 h2 h3 hv he c2 c3 c1 hb c4
                    · cases hm
                  · cases hm
                · cases hm
              · cases hm
            cases hc
            simp only [mval] at hm
            split at hm
            · rename_i v hv
              split at hm
              · rename_i sz' l hl
                split at hm
                · rename_i hsz
                  subst hsz
                  split at hm
                  · rename_i i j hb
                    split at hm
                    · split at hm
                      · rename_i k
                        split at hm
                        · rename_i en he
                          split at hm
                          · cases hm
                          · rename_i hf
                            simp only [Option.some.injEq, Prod.mk.injEq] at hm
                            obtain ⟨rfl, rfl⟩ := hm
                            obtain ⟨en', he', hz, e1, rfl⟩ := rdRow_h hl
                            rw [he] at he'; cases he'
                            exact snd_slcO r hid ho hd hk h1 h2 h3 hv he e1 (by simp only [not_or] at hf; simpa using hf.1) hb hz
                        · cases hm
                      · cases hm
                    · simp only [Option.map_eq_some_iff, Prod.mk.injEq] at hm
                      obtain ⟨⟨p, H1⟩, hp, rfl, rfl⟩ := hm
                      exact snd_slc r ho hd hk h1 h2 h3 hv hl hb hp
                  · cases hm
                · cases hm
              · cases hm
            · cases hm
          · cases hc
        · split at hc
          · obtain ⟨x', h1, rfl⟩ := Option.map_eq_some_iff.1 hc
            simp only [mval] at hm
            split at hm
            · rename_i v hv
              split at hm
              · rename_i l hl
                simp only [Option.some.injEq, Prod.mk.injEq] at hm
                obtain ⟨rfl, rfl⟩ := hm
                exact snd_sl0 r hid ho hd hk h1 hv hl
              · cases hm
            · cases hm
          · cases hc
        · cases hc
      · cases hc
    · cases hc
  · rename_i t x i ho
    split at hc
    · rename_i fs hd
      split at hc
      · rename_i f hf
        split at hc
        · rename_i hk
          obtain ⟨x', h1, rfl⟩ := Option.map_eq_some_iff.1 hc
          simp only [mval] at hm
          split at hm
          · rename_i k j off hv
            split at hm
            · rename_i he
              obtain ⟨en, he⟩ := Option.isSome_iff_exists.1 he
              simp only [Option.some.injEq, Prod.mk.injEq] at hm
              obtain ⟨rfl, rfl⟩ := hm
              exact snd_fa_p r ho hd hf hk.1 hk.2 h1 hv he
            · cases hm
          · rename_i cs hv
            simp only [Option.some.injEq, Prod.mk.injEq] at hm
            obtain ⟨rfl, rfl⟩ := hm
            exact snd_fa_r r ho hd hf hk.1 hk.2 h1 hv
          · cases hm
        · cases hc
      · cases hc
    · cases hc
  · rename_i t x i ho
    split at hc
    · rename_i fs hd
      split at hc
      · rename_i f hf
        split at hc
        · rename_i hk
          obtain ⟨x', h1, rfl⟩ := Option.map_eq_some_iff.1 hc
          simp only [mval] at hm
          split at hm
          · rename_i cs hv
            simp only [Option.map_eq_some_iff, Prod.mk.injEq] at hm
            obtain ⟨p, hp, rfl, rfl⟩ := hm
            exact snd_fld r ho hd hf hk h1 hv hp
          · cases hm
        · cases hc
      · cases hc
    · cases hc
  · rename_i t x y ho
    split at hc
    · rename_i e x' y' hd h1 h2
      split at hc
      · rename_i hk
        cases hc
        simp only [mval] at hm
        split at hm
        · rename_i k lo m j hv hj
          split at hm
          · rename_i en he
            split at hm
            · rename_i hh
              obtain ⟨c1, c2, c3⟩ := hh
              simp only [Option.some.injEq, Prod.mk.injEq] at hm
              obtain ⟨rfl, rfl⟩ := hm
              exact snd_ia_s r ho hd hk.1 hk.2 h1 h2 hv he c3 hj c1 c2
            · cases hm
          · cases hm
        · rename_i sz' l j hv hj
          split at hm
          · rename_i hh
            obtain ⟨h0, rfl⟩ := hh
            simp only [Option.map_eq_some_iff, Prod.mk.injEq] at hm
            obtain ⟨p, hp, rfl, rfl⟩ := hm
            exact snd_ia_v r ho hd hk.1 hk.2 h1 h2 hv hj h0 hp
          · cases hm
        · rename_i k j hv hj
          split at hm
          · rename_i en he
            split at hm
            · rename_i hz
              split at hm
              · rename_i hh
                obtain ⟨c1, c2, c3, c4, c5⟩ := hh
                simp only [Option.some.injEq, Prod.mk.injEq] at hm
                obtain ⟨rfl, rfl⟩ := hm
                exact snd_ia_n r ho hd hk.1 c1 h1 h2 hv he hz c3 hj c2 c4 c5
              · cases hm
            · split at hm
              · rename_i hh
                obtain ⟨h0, hes⟩ := hh
                simp only [Option.map_eq_some_iff, Prod.mk.injEq] at hm
                obtain ⟨p, hp, rfl, rfl⟩ := hm
                exact snd_ia_h r ho hd hk.1 hk.2 h1 h2 hv he hes hj h0 hp
              · cases hm
          · cases hm
        · cases hm
      · cases hc
    · rename_i n' e x' y' hd h1 h2
      split at hc
      · rename_i hk
        cases hc
        simp only [mval] at hm
        split at hm
        · rename_i k i off j hv hj
          split at hm
          · rename_i hh
            obtain ⟨h0, hlt, he⟩ := hh
            obtain ⟨en, he⟩ := Option.isSome_iff_exists.1 he
            simp only [Option.some.injEq, Prod.mk.injEq] at hm
            obtain ⟨rfl, rfl⟩ := hm
            exact snd_iaA_p r ho hd hk h1 h2 hv he hj h0 hlt
          · cases hm
        · rename_i cs j hv hj
          split at hm
          · rename_i hh
            obtain ⟨h0, hlt⟩ := hh
            simp only [Option.some.injEq, Prod.mk.injEq] at hm
            obtain ⟨rfl, rfl⟩ := hm
            exact snd_iaA_r r ho hd hk h1 h2 hv hj h0 hlt
          · cases hm
        · cases hm
      · cases hc
    · cases hc
  · rename_i t x y ho
    split at hc
    · rename_i x' y' hd h1 h2
      cases hc
      simp only [mval] at hm
      split at hm
      · rename_i b i hv hi
        split at hm
        · rename_i h0
          simp only [Option.map_eq_some_iff, Prod.mk.injEq] at hm
          obtain ⟨c, hcc, rfl, rfl⟩ := hm
          exact snd_six r ho hd h1 h2 hv hi h0 hcc
        · cases hm
      · cases hm
    · rename_i n' e x' y' hd h1 h2
      split at hc
      · rename_i hk
        cases hc
        simp only [mval] at hm
        split at hm
        · rename_i cs j hv hj
          split at hm
          · rename_i hh
            simp only [Option.map_eq_some_iff, Prod.mk.injEq] at hm
            obtain ⟨p, hp, rfl, rfl⟩ := hm
            exact snd_aix r ho hd hk h1 h2 hv hj hh.1 hh.2 hp
          · cases hm
        · cases hm
      · cases hc
    · cases hc
  · rename_i x i ho
    obtain ⟨x', h1, rfl⟩ := Option.map_eq_some_iff.1 hc
    simp only [mval] at hm
    split at hm
    · rename_i l hv
      simp only [Option.map_eq_some_iff, Prod.mk.injEq] at hm
      obtain ⟨v, hl, rfl, rfl⟩ := hm
      exact snd_ext r ho h1 hv hl
    · cases hm
  · rename_i t ho
    split at hc
    · rename_i kt e hd
      cases hc
      simp only [mval, Option.some.injEq, Prod.mk.injEq] at hm
      obtain ⟨rfl, rfl⟩ := hm
      exact snd_mkM r hid ho
    · cases hc
  · rename_i t x k ok ho
    split at hc
    · rename_i kt e hd
      split at hc
      · rename_i ks z x' k' hks hz h1 h2
        cases hc
        simp only [mval] at hm
        split at hm
        · rename_i m kp hu hv
          split at hm
          · rename_i rest hr
            split at hm
            · cases hm
            · rename_i hok
              have hok : kok (aggT P kt) ks kp = true := by cases h : kok (aggT P kt) ks kp <;> simp [h] at hok ⊢
              split at hm
              · rename_i p hf
                cases hm
                exact snd_mlk r ho hd hks hz h1 h2 hu hv hr hok hf
              · rename_i hf
                cases hm
                exact snd_mlk r ho hd hks hz h1 h2 hu hv hr hok hf
              · cases hm
          · cases hm
        · cases hm
      · cases hc
    · cases hc
  · rename_i t x k y ho
    obtain ⟨rfl, W', ow', g1, g2⟩ := mup_core r ho hc0 hm
    exact ⟨undef, W', hdr, ow', .inr ⟨g1, rfl⟩, g2.monoF fun i h => .inl h, by simp [RepA], by simp [AV.men]⟩
  · rename_i t x ho
    split at hc
    · rename_i kt e hd
      obtain ⟨x', h1, rfl⟩ := Option.map_eq_some_iff.1 hc
      simp only [mval] at hm
      split at hm
      · rename_i m hu
        obtain ⟨rest, hr, hm⟩ := Option.map_eq_some_iff.1 hm
        cases hm
        exact snd_rng r hid ho hd h1 hu hr
      · cases hm
    · cases hc
  · rename_i x ho
    obtain ⟨x', h1, rfl⟩ := Option.map_eq_some_iff.1 hc
    simp only [mval] at hm
    split at hm
    · cases hm
    split at hm
    · rename_i i hu
      split at hm
      · rename_i m k seen hi
        split at hm
        · rename_i rest kk j hr hl
          split at hm
          · rename_i hlen
            split at hm
            · rename_i p v hj
              cases hm
              exact snd_ent r ho h1 hu hi hr hl hlen hj
            · cases hm
          · cases hm
        · cases hm
      · cases hm
    · cases hm
  · rename_i as ts ho
    split at hc
    · rename_i x t ha hts
      split at hc
      · rename_i hd
        obtain ⟨x', h1, rfl⟩ := Option.map_eq_some_iff.1 hc
        simp only [mval] at hm
        split at hm
        · rename_i b hv
          simp only [Option.some.injEq, Prod.mk.injEq] at hm
          obtain ⟨rfl, rfl⟩ := hm
          exact snd_len_str r ho ha hts hd h1 hv
        · cases hm
      · rename_i e hd
        obtain ⟨x', h1, rfl⟩ := Option.map_eq_some_iff.1 hc
        simp only [mval] at hm
        split at hm
        · rename_i k lo m hv
          split at hm
          · rename_i hks
            simp only [Option.some.injEq, Prod.mk.injEq] at hm
            obtain ⟨rfl, rfl⟩ := hm
            exact snd_len_sub r ho ha hts hd h1 hv hks
          · cases hm
        · rename_i v _ hv
          split at hm
          · rename_i sz l hl
            simp only [Option.some.injEq, Prod.mk.injEq] at hm
            obtain ⟨rfl, rfl⟩ := hm
            exact snd_len_row r ho ha hts hd h1 hv hl
          · split at hm
            · rename_i m hl
              simp only [Option.some.injEq, Prod.mk.injEq] at hm
              obtain ⟨rfl, rfl⟩ := hm
              exact snd_len_n r ho ha hts hd h1 hv hl
            · cases hm
        · cases hm
      · rename_i kt e hd
        obtain ⟨x', h1, rfl⟩ := Option.map_eq_some_iff.1 hc
        simp only [mval] at hm
        split at hm
        · rename_i m hv
          obtain ⟨rest, hr, hm⟩ := Option.map_eq_some_iff.1 hm
          cases hm
          exact snd_mln r ho ha hts hd h1 hv hr
        · cases hm
      · cases hc
    · cases hc
  · rename_i as ts ho
    split at hc
    · rename_i x t ha hts
      split at hc
      · rename_i e he
        split at hc
        · rename_i z x' hz h1
          split at hc
          · rename_i hh
            cases hc
            have hd : P.underlying t = some (.slice e) := by
              unfold elemT at he; split at he <;> simp_all
            simp only [mval] at hm
            split at hm
            · rename_i k lo m hv
              split at hm
              · rename_i en hen
                split at hm
                · rename_i hg
                  obtain ⟨_, c1, c2, c3, c4, c5⟩ := hg
                  simp only [Option.some.injEq, Prod.mk.injEq] at hm
                  obtain ⟨rfl, rfl⟩ := hm
                  exact snd_clr r ho ha hts hd hz hh.1 hh.2.1 hh.2.2 h1 hv hen c1 c2 c4 c5
                · cases hm
              · cases hm
            · cases hm
          · cases hc
        · cases hc
      · cases hc
    · cases hc
  · rename_i as ts ho
    split at hc
    · rename_i x y ha
      split at hc
      · rename_i x' y' h1 h2
        cases hc
        simp only [mval] at hm
        split at hm
        · rename_i k i k' j hv hw
          simp only [Option.some.injEq, Prod.mk.injEq] at hm
          obtain ⟨rfl, rfl⟩ := hm
          exact snd_mm (mx := true) r ho ha h1 h2 hv hw
        · rename_i i j hv hw
          simp only [Option.some.injEq, Prod.mk.injEq] at hm
          obtain ⟨rfl, rfl⟩ := hm
          exact snd_mmS (mx := true) r ho ha h1 h2 hv hw
        · cases hm
      · cases hc
    · rename_i x y z ha
      split at hc
      · rename_i x' y' z' h1 h2 h3
        cases hc
        simp only [mval] at hm
        split at hm
        · rename_i k i k' j k'' m' hv hw hx
          simp only [Option.some.injEq, Prod.mk.injEq] at hm
          obtain ⟨rfl, rfl⟩ := hm
          exact snd_mm3 (mx := true) r ho ha h1 h2 h3 hv hw hx
        · cases hm
      · cases hc
    · cases hc
  · rename_i as ts ho
    split at hc
    · rename_i x y ha
      split at hc
      · rename_i x' y' h1 h2
        cases hc
        simp only [mval] at hm
        split at hm
        · rename_i k i k' j hv hw
          simp only [Option.some.injEq, Prod.mk.injEq] at hm
          obtain ⟨rfl, rfl⟩ := hm
          exact snd_mm (mx := false) r ho ha h1 h2 hv hw
        · rename_i i j hv hw
          simp only [Option.some.injEq, Prod.mk.injEq] at hm
          obtain ⟨rfl, rfl⟩ := hm
          exact snd_mmS (mx := false) r ho ha h1 h2 hv hw
        · cases hm
      · cases hc
    · rename_i x y z ha
      split at hc
      · rename_i x' y' z' h1 h2 h3
        cases hc
        simp only [mval] at hm
        split at hm
        · rename_i k i k' j k'' m' hv hw hx
          simp only [Option.some.injEq, Prod.mk.injEq] at hm
          obtain ⟨rfl, rfl⟩ := hm
          exact snd_mm3 (mx := false) r ho ha h1 h2 h3 hv hw hx
        · cases hm
      · cases hc
    · cases hc
  · rename_i as ts ho
    split at hc
    · rename_i x y t tx ha hts
      split at hc
      · rename_i e e2 he he2
        split at hc
        · rename_i i x' y' hi h1 h2
          split at hc
          · rename_i hz
            have hd : P.underlying t = some (.slice e) := by
              unfold elemT at he; split at he <;> simp_all
            have hd2 : P.underlying tx = some (.slice e2) := by
              unfold elemT at he2; split at he2 <;> simp_all
            split at hc
            · rename_i hnil
              split at hc
              · cases hc
                simp only [mval] at hm
                split at hm
                · rename_i v hw
                  split at hm
                  · rename_i sz' ys hys
                    split at hm
                    · rename_i hh
                      obtain ⟨rfl, g4⟩ := hh
                      simp only [Option.some.injEq, Prod.mk.injEq] at hm
                      obtain ⟨rfl, rfl⟩ := hm
                      exact snd_frz hid r hnil.2 (snd_cln r hid ho ha hts hd hd2 hi hz.1 hz.2 hnil.1 h2 hw hys g4 hnil.2)
                    · cases hm
                  · cases hm
                · cases hm
              cases hc
              simp only [mval] at hm
              split at hm
              · rename_i v hw
                split at hm
                · rename_i sz' ys hys
                  split at hm
                  · rename_i hh
                    obtain ⟨rfl, g4⟩ := hh
                    simp only [Option.some.injEq, Prod.mk.injEq] at hm
                    obtain ⟨rfl, rfl⟩ := hm
                    exact snd_cln r hid ho ha hts hd hd2 hi hz.1 hz.2 hnil.1 h2 hw hys g4 hnil.2
                  · cases hm
                · cases hm
              · cases hm
            split at hc
            · cases hc
              simp only [mval] at hm
              split at hm
              · rename_i k v hv hw
                split at hm
                · rename_i en sz' ys hen hys
                  split at hm
                  · rename_i hh
                    obtain ⟨g1, g2, rfl, g4, _, g5, _⟩ := hh
                    have hsnd := snd_app r hid ho ha hts hd hd2 hi hz.1 hz.2 h1 h2 hv hw hen hys g1 g2 g4 g5
                    split at hm
                    · simp only [Option.some.injEq, Prod.mk.injEq] at hm
                      obtain ⟨rfl, rfl⟩ := hm
                      refine hsnd.frozen ?_ g5
                      rw [find_strike]
                      split
                      · rfl
                      · exact r.fresh hid
                    · simp only [Option.some.injEq, Prod.mk.injEq] at hm
                      obtain ⟨rfl, rfl⟩ := hm
                      exact hsnd
                  · cases hm
                · cases hm
              · cases hm
            · cases hc
              simp only [mval] at hm
              split at hm
              · rename_i k v hv hw
                split at hm
                · rename_i en sz' ys hen hys
                  split at hm
                  · rename_i hh
                    obtain ⟨g1, g2, rfl, g4, _, g5⟩ := hh
                    simp only [Option.some.injEq, Prod.mk.injEq] at hm
                    obtain ⟨rfl, rfl⟩ := hm
                    exact snd_app r hid ho ha hts hd hd2 hi hz.1 hz.2 h1 h2 hv hw hen hys g1 g2 g4 g5
                  · cases hm
                · cases hm
              · rename_i v hv hw
                split at hm
                · rename_i sz' ys hys
                  split at hm
                  · rename_i hh
                    obtain ⟨rfl, g4, _, g5⟩ := hh
                    simp only [Option.some.injEq, Prod.mk.injEq] at hm
                    obtain ⟨rfl, rfl⟩ := hm
                    exact snd_appN r hid ho ha hts hd hd2 hi hz.1 hz.2 h1 hv h2 hw hys g4 g5
                  · cases hm
                · cases hm
              · cases hm
          · cases hc
        · cases hc
      · cases hc
    · cases hc
  · cases hc
end
end Go.AM
/- Calls: what a function comes to, and what a caller has of it. -/
set_option linter.all false
namespace Go.AM
open Go
variable [dr : Inhabited Prop]

/-- What a function comes to: handed args and the rows H (numbered from 0), it returns res, and the rows are then H'. -/
def FOk (P : Program) (f : FuncId) (args : List AV) (H : Heap) (res : AV) (H' : Heap) : Prop :=
  (∀ (as : Array Value) (W : World), (callFunc f as).run P W = .ok (.enter f as) W) ∧
  ∀ (W : World) (ok0 : Nat → Prop) (vals : List Value) (hdr : Nat → Value) (ow : Nat → Option Nat), Mem (Cx.of W (ok0) (Own H ow)) W H hdr ow → RepAs W (OK (Cx.of W (ok0) (Own H ow)) W H ow) hdr H args vals →
    Calls P f vals.toArray W fun e W' => ∃ v hdr' ow', e = .returned v ∧ Mem (Cx.of W (ok0) (Own H ow)) W' H' hdr' ow' ∧ RepA W' (OK (Cx.of W (ok0) (Own H ow)) W' H' ow') hdr' H' res v ∧
      ∀ k e e', find H k = some e → find H' k = some e' → hdr' k = hdr k ∧ e'.sz = e.sz

/-! ### Handing over -/
def idx (ids : List Nat) (id : Nat) (k : Nat := 0) : Option Nat :=
  match ids with
  | [] => none
  | j :: l => if j = id then some k else idx l id (k + 1)

def passH (H : Heap) : Nat → List Nat → Heap
  | _, [] => []
  | k, id :: l => match find H id with
    | some e => (k, e) :: passH H (k + 1) l
    | none => passH H (k + 1) l

/-- The rows that an entry names, under other numbers. -/
def renE (g : Nat → Nat) (e : Ent) : Ent := match e.sz, e.l with
  | 0, q :: rest => (match decR q with
    | some (some (i, c)) => { e with l := encR i (g c) :: rest }
    | _ => e)
  | _, _ => e
def isR (l : List PV) : Bool := match l with | q :: _ => (decR q).isSome | [] => false
/-- What may be handed over: what names no row, and rows of rows one of which is owned. -/
def Ent.pas (e : Ent) : Prop := e.sol ∨ (e.sz = 0 ∧ e.fro = false ∧ isR e.l = true)
def gi (ids : List Nat) (c : Nat) : Nat := (idx ids c).getD 0
def renH (g : Nat → Nat) (H : Heap) : Heap := H.map fun p => (p.1, renE g p.2)
def passN (H : Heap) (ids : List Nat) : Heap := renH (gi ids) (passH H 0 ids)

mutual
/-- What is handed over but not as a row of its own is written no more. -/
def frz (ids : List Nat) (H : Heap) : AV → Heap
  | .h id => match idx ids id with
    | some _ => H
    | none => match find H id with
      | some e => if e.fro = true ∨ e.sz = 0 then H else setIn H id { e with fro := true }
      | none => H
  | .fn _ l => frzs ids H l
  | .u => H
  | .v _ => H
  | .ptr id _ _ => match idx ids id with
    | some _ => H
    | none => match find H id with
      | some e => if e.fro = true ∨ e.sz = 0 then H else setIn H id { e with fro := true }
      | none => H
  | .sub _ _ _ => H
  | .ub => H
  | .rp _ => H
  | .tup _ => H
def frzs (ids : List Nat) (H : Heap) : List AV → Heap
  | [] => H
  | x :: l => frzs ids (frz ids H x) l
end

mutual
/-- An argument as the callee has it. b: a row may be lent (the result bears no row). -/
def passA (b : Bool) (H : Heap) (ids : List Nat) : AV → Option AV
  | .h id => match idx ids id with
    | some k => some (.h k)
    | none => match find H id with
      | some e => if e.sz = 0 then none else if e.fro = true ∨ b = true then some (.v (.sl e.sz e.l)) else none
      | none => none
  | .ptr id i o => match idx ids id with
    | some k => some (.ptr k i o)
    | none => match find H id with
      | some e => if e.sz = 0 then none else if e.fro = true ∨ b = true then (match e.l[i]? with | some w => some (.rp (w.cells.drop o)) | none => none) else none
      | none => none
  | .sub _ _ _ => none
  | .ub => none
  | .fn f l => match passAs b H ids l with
    | some l => some (.fn f l)
    | none => none
  | .u => some .u
  | .v p => some (.v p)
  | .rp cs => some (.rp cs)
  | .tup _ => none
def passAs (b : Bool) (H : Heap) (ids : List Nat) : List AV → Option (List AV)
  | [] => some []
  | x :: l => match passA b H ids x, passAs b H ids l with
    | some y, some ys => some (y :: ys)
    | _, _ => none
end

/-- The caller's number of a row. -/
def bk (ids : List Nat) (base k : Nat) : Nat := match ids[k]? with | some id => id | none => base + 1024 * (k - ids.length)

mutual
def backA (ids : List Nat) (base : Nat) : AV → AV
  | .h k => .h (bk ids base k)
  | .ptr k i o => .ptr (bk ids base k) i o
  | .sub k i o => .sub (bk ids base k) i o
  | .ub => .ub
  | .fn f l => .fn f (backAs ids base l)
  | .tup l => .tup (backAs ids base l)
  | .u => .u
  | .v p => .v p
  | .rp cs => .rp cs
def backAs (ids : List Nat) (base : Nat) : List AV → List AV
  | [] => []
  | x :: l => backA ids base x :: backAs ids base l
end

def strikes (H : Heap) : List Nat → Heap
  | [] => H
  | id :: l => strikes (strike H id) l

def outH (H : Heap) (ids : List Nat) (base : Nat) (Hout : Heap) : Heap := Hout.map (fun p => (bk ids base p.1, p.2)) ++ strikes H ids
def outN (H : Heap) (ids : List Nat) (base : Nat) (Hout : Heap) : Heap := outH H ids base (renH (bk ids base) Hout)

/-- What a kept function value holds, as slots have it. -/
def capAs : List PV → Option (List AV)
  | [] => some []
  | .pt cs :: ps => match capAs ps with
    | some l => some (.rp cs :: l)
    | none => none
  | _ :: _ => none

def fnOf : AV → Option (FuncId × List AV)
  | .fn f l => some (f, l)
  | .v (.w (.func (.func f) a b)) => if a.size = 0 ∧ b.size = 0 then some (f, []) else none
  | .v (.cl f ps) => match capAs ps with
    | some l => some (f, l)
    | none => none
  | _ => none

mutual
def flatA : AV → Bool
  | .v (.w _) => true
  | .tup l => flatAs l
  | .u => true
  | .fn _ l => flatAs l
  | .v (.sl _ _) => false
  | .v (.pt _) => false
  | .v (.cl _ _) => false
  | .v .nl => false
  | .v (.ifc _ _) => false
  | .v (.st cs) => cs.all fun p => match p with | .w _ => true | _ => false
  | .h _ => false
  | .ptr _ _ _ => false
  | .sub _ _ _ => false
  | .ub => false
  | .rp _ => false
def flatAs : List AV → Bool
  | [] => true
  | x :: l => flatA x && flatAs l
end

/-- A call, with rows handed over (ids). -/
inductive CallOk (P : Program) (s : St) (d : Nat) (f : Opd) (args : List Opd) : St → Prop
  | rows {u : AV} {fid : FuncId} {caps as ys : List AV} {ids : List Nat} {res : AV} {Hout Hn : Heap} : ev s.env f = some u → fnOf u = some (fid, caps) → evs s.env args = some as →
      passAs false (frzs ids s.heap (as ++ caps)) ids (as ++ caps) = some ys → ids.Nodup → (∀ id ∈ ids, ∃ e, find (frzs ids s.heap (as ++ caps)) id = some e ∧ e.pas ∧ ∀ c, e.ref = some c → c ∈ ids) →
      FOk P fid ys (passN (frzs ids s.heap (as ++ caps)) ids) res Hout → (∀ p ∈ Hout, p.1 < ids.length + 8 ∧ p.2.pas ∧ ∀ c, p.2.ref = some c → (find Hout c).isSome = true) → (∀ k, res.men k → k < ids.length + 8) →
      (∀ k, find Hn k = find (outN (frzs ids s.heap (as ++ caps)) ids (s.nx + d) Hout) k) →
      CallOk P s d f args ⟨(d, backA ids (s.nx + d) res) :: s.env, Hn, s.nx⟩
  | lent {u : AV} {fid : FuncId} {caps as ys : List AV} {res : AV} : ev s.env f = some u → fnOf u = some (fid, caps) → evs s.env args = some as →
      passAs true s.heap [] (as ++ caps) = some ys → FOk P fid ys [] res [] → flatA res = true → CallOk P s d f args ⟨(d, res) :: s.env, s.heap, s.nx⟩

theorem isR_inv {l : List PV} (h : isR l = true) : ∃ q rest rf, l = q :: rest ∧ decR q = some rf := by
  unfold isR at h
  cases l with
  | nil => cases h
  | cons q rest =>
    obtain ⟨rf, h⟩ := Option.isSome_iff_exists.1 h
    exact ⟨q, rest, rf, rfl, h⟩
theorem renE_sz (g : Nat → Nat) (e : Ent) : (renE g e).sz = e.sz := by
  unfold renE; split
  · split <;> rfl
  · rfl
theorem renE_fro (g : Nat → Nat) (e : Ent) : (renE g e).fro = e.fro := by
  unfold renE; split
  · split <;> rfl
  · rfl
theorem renE_sol {g : Nat → Nat} {e : Ent} (h : e.sol) : renE g e = e := by
  unfold renE
  split
  · rename_i q rest hz hl
    have h1 := h.resolve_left fun h => h hz
    rw [hl] at h1
    rw [(sp_R (decM_sp h1)).1]
  · rfl
theorem renE_R {g : Nat → Nat} {e : Ent} {q : PV} {rest : List PV} (hz : e.sz = 0) (hl : e.l = q :: rest) : renE g e = match decR q with
    | some (some (i, c)) => { e with l := encR i (g c) :: rest }
    | _ => e := by
  obtain ⟨f, z, l⟩ := e
  simp only at hz hl
  subst hz hl
  rfl
theorem Ent.pas_refs {e : Ent} {c : Nat} (h : e.pas) : e.refs c ↔ e.ref = some c := by
  refine ⟨fun hc => ?_, .inl⟩
  rcases h with h | ⟨hz, _, h⟩
  · exact (Ent.sol_refs h hc).elim
  · obtain ⟨q, rest, rf, hl, hrf⟩ := isR_inv h
    obtain ⟨i, rfl⟩ := (Ent.refs_R hz hl hrf).1 hc
    simp [Ent.ref, hz, hl, hrf]
theorem refs_ren {g : Nat → Nat} {e : Ent} {c : Nat} (h : e.pas) (hc : (renE g e).refs c) : ∃ c0, e.ref = some c0 ∧ c = g c0 := by
  rcases h with h | ⟨hz, _, h⟩
  · rw [renE_sol h] at hc; exact (Ent.sol_refs h hc).elim
  · obtain ⟨q, rest, rf, hl, hrf⟩ := isR_inv h
    rw [renE_R hz hl, hrf] at hc
    cases rf with
    | none => simp only at hc; obtain ⟨i, h⟩ := (Ent.refs_R hz hl hrf).1 hc; cases h
    | some x =>
      obtain ⟨i, c0⟩ := x
      simp only at hc
      obtain ⟨j, h⟩ := (Ent.refs_R (e := { e with l := encR i (g c0) :: rest }) (g := encR i (g c0)) (rest := rest) (rf := some (i, g c0)) hz rfl (by simp [decR])).1 hc
      simp only [Option.some.injEq, Prod.mk.injEq] at h
      exact ⟨c0, by simp [Ent.ref, hz, hl, hrf], h.2.symm⟩
theorem RepE.ren {W W' : World} {ok ok' : Nat → Prop} {hdr hdr' : Nat → Value} {e : Ent} {x : Value} {o : Option Nat} {g : Nat → Nat} (r : RepE W ok hdr e x o) (hp : e.pas) (h : ∀ b, ok b → ok' b ∧ W'.heap[b]? = W.heap[b]?) (ho : ∀ b, o = some b → W'.heap[b]? = W.heap[b]?)
    (hh : ∀ c, e.ref = some c → hdr' (g c) = hdr c) : RepE W' ok' hdr' (renE g e) x o := by
  rcases hp with hs | ⟨hz, hf, hl⟩
  · rw [renE_sol hs]
    exact r.mono h ho fun c hc => (Ent.sol_refs hs hc).elim
  · obtain ⟨q, rest, rf, hl, hrf⟩ := isR_inv hl
    have hn := r.nest hz hf hl hrf
    obtain ⟨_, _, q', rest', rf', hl', hrf', hn⟩ := hn
    rw [hl] at hl'; injection hl' with e1 e2; subst e1 e2
    rw [hrf] at hrf'; cases hrf'
    have key : ∀ rf2 : Option (Nat × Nat), (∀ i c, rf = some (i, c) → rf2 = some (i, g c)) → (rf = none → rf2 = none) → ∀ q2, decR q2 = some rf2 → RepE W' ok' hdr' { e with l := q2 :: rest } x o := by
      intro rf2 k1 k2 q2 hq2
      refine .inr (.inl ⟨hf, hz, q2, rest, rf2, rfl, hq2, ?_⟩)
      rcases hn with hn | ⟨b, off, cap, c, g1, g2, ⟨t, g3⟩, g4, g5, g6⟩
      · exact .inl hn
      · refine .inr ⟨b, off, cap, c, g1, g2, ⟨t, (ho b g1).trans g3⟩, g4, g5, g6.1, fun j p v hp hv => ⟨fun i c' e1 e2 => ?_, fun h3 => ((g6.2 j p v hp hv).2 fun i c' e1 => h3 i (g c') (k1 i c' e1)).mono h⟩⟩
        cases rf with
        | none => rw [k2 rfl] at e1; cases e1
        | some y =>
          obtain ⟨i0, c0⟩ := y
          rw [k1 i0 c0 rfl] at e1
          simp only [Option.some.injEq, Prod.mk.injEq] at e1
          obtain ⟨rfl, rfl⟩ := e1
          rw [hh c0 (by simp [Ent.ref, hz, hl, hrf])]
          exact (g6.2 j p v hp hv).1 _ _ rfl e2
    rw [renE_R hz hl, hrf]
    cases rf with
    | none =>
      have := key none (by simp) (by simp) q hrf
      rw [← hl] at this
      exact this
    | some y =>
      obtain ⟨i0, c0⟩ := y
      exact key (some (i0, g c0)) (by simp) (by simp) _ (by simp [decR])
theorem find_renH (g : Nat → Nat) : ∀ (H : Heap) (k : Nat), find (renH g H) k = (find H k).map (renE g)
  | [], k => rfl
  | (j, e) :: H, k => by
    have ih := find_renH g H k
    simp only [renH, List.map_cons, find_cons] at ih ⊢
    split
    · rfl
    · exact ih
theorem find_ren {g : Nat → Nat} {H : Heap} {k : Nat} {e : Ent} (h : find (renH g H) k = some e) : ∃ e0, find H k = some e0 ∧ e = renE g e0 := by
  rw [find_renH] at h
  obtain ⟨e0, h1, h2⟩ := Option.map_eq_some_iff.1 h
  exact ⟨e0, h1, h2.symm⟩
theorem own_renH (g : Nat → Nat) (H : Heap) (ow : Nat → Option Nat) : Own (renH g H) ow = Own H ow := by
  funext b
  apply propext
  constructor
  · rintro ⟨k, e, h1, h2⟩
    obtain ⟨e0, h3, _⟩ := find_ren h1
    exact ⟨k, e0, h3, h2⟩
  · rintro ⟨k, e, h1, h2⟩
    exact ⟨k, renE g e, by rw [find_renH, h1]; rfl, h2⟩
theorem OK_renH (C : Cx) (W : World) (g : Nat → Nat) (H : Heap) (ow : Nat → Option Nat) : OK C W (renH g H) ow = OK C W H ow := by
  funext b; unfold OK; rw [own_renH]
theorem renH_sol {g : Nat → Nat} : ∀ {H : Heap}, (∀ p ∈ H, p.2.sol) → renH g H = H
  | [], _ => rfl
  | (j, e) :: H, h => by
    have ih := renH_sol (g := g) (H := H) fun p hp => h p (List.mem_cons_of_mem _ hp)
    simp only [renH, List.map_cons] at ih ⊢
    rw [ih, renE_sol (h (j, e) (by simp))]
theorem RepAs.renH {W : World} {ok : Nat → Prop} {hdr : Nat → Value} {g : Nat → Nat} {H : Heap} {l : List AV} {vs : List Value} (h : RepAs W ok hdr H l vs) : RepAs W ok hdr (Go.AM.renH g H) l vs :=
  RepAs.mono (fun b hb => ⟨hb, rfl⟩) l vs (fun id _ e' he' => by obtain ⟨e0, h1, rfl⟩ := find_ren he'; exact ⟨e0, h1, rfl, renE_sz _ _⟩) h
theorem RepA.renH {W : World} {ok : Nat → Prop} {hdr : Nat → Value} {g : Nat → Nat} {H : Heap} {x : AV} {v : Value} (h : RepA W ok hdr H x v) : RepA W ok hdr (Go.AM.renH g H) x v :=
  RepA.mono (fun b hb => ⟨hb, rfl⟩) x v (fun id _ e' he' => by obtain ⟨e0, h1, rfl⟩ := find_ren he'; exact ⟨e0, h1, rfl, renE_sz _ _⟩) h
theorem RepA.unren {W : World} {ok : Nat → Prop} {hdr : Nat → Value} {g : Nat → Nat} {H : Heap} {x : AV} {v : Value} (h : RepA W ok hdr (Go.AM.renH g H) x v) : RepA W ok hdr H x v :=
  RepA.mono (fun b hb => ⟨hb, rfl⟩) x v (fun id _ e' he' => ⟨renE g e', by rw [find_renH, he']; rfl, rfl, (renE_sz _ _).symm⟩) h
theorem gi_get {ids : List Nat} (hn : ids.Nodup) {c : Nat} (h : c ∈ ids) : ids[gi ids c]? = some c := by
  have key : ∀ (l : List Nat) (k0 : Nat), c ∈ l → ∃ k, idx l c k0 = some k ∧ k0 ≤ k ∧ l[k - k0]? = some c := by
    intro l
    induction l with
    | nil => intro k0 h; cases h
    | cons j l ih =>
      intro k0 h
      simp only [idx]
      by_cases hj : j = c
      · subst hj; exact ⟨k0, by simp, Nat.le_refl _, by simp⟩
      · obtain ⟨k, h1, h2, h3⟩ := ih (k0 + 1) ((List.mem_cons.1 h).resolve_left fun e => hj e.symm)
        refine ⟨k, by rw [if_neg hj]; exact h1, by omega, ?_⟩
        rw [show k - k0 = (k - (k0 + 1)) + 1 by omega, List.getElem?_cons_succ]; exact h3
  obtain ⟨k, h1, _, h3⟩ := key ids 0 h
  rw [Nat.sub_zero] at h3
  unfold gi; rw [h1]; exact h3

section
variable {P : Program} {C : Cx} {n : Nat} {F : Nat → Prop} {s : St} {a : Act} {W : World} {hdr : Nat → Value} {ow : Nat → Option Nat} {id : Nat} {o : Oper}

/-- A row is frozen: what lies under each number. -/
def Frzd (H H' : Heap) : Prop := ∀ k, (∀ e, find H' k = some e → ∃ e0, find H k = some e0 ∧ e0.sz = e.sz ∧ e0.l = e.l) ∧ (∀ e0, find H k = some e0 → ∃ e, find H' k = some e)

theorem Frzd.refl (H : Heap) : Frzd H H := fun k => ⟨fun e h => ⟨e, h, rfl, rfl⟩, fun e h => ⟨e, h⟩⟩
theorem Frzd.trans {H H1 H2 : Heap} (h : Frzd H H1) (h' : Frzd H1 H2) : Frzd H H2 := fun k =>
  ⟨fun e he => by
    obtain ⟨e1, h1, h2, h3⟩ := (h' k).1 e he
    obtain ⟨e0, h4, h5, h6⟩ := (h k).1 e1 h1
    exact ⟨e0, h4, h5.trans h2, h6.trans h3⟩, fun e he => by
    obtain ⟨e1, h1⟩ := (h k).2 e he
    exact (h' k).2 e1 h1⟩

theorem Frzd.setIn {H : Heap} {id : Nat} {e : Ent} (he : find H id = some e) : Frzd H (setIn H id { e with fro := true }) := by
  intro k
  constructor
  · intro y hk
    rw [find_setIn] at hk
    by_cases hki : k = id
    · subst hki; rw [if_pos rfl, he] at hk; simp at hk; subst hk; exact ⟨e, he, rfl, rfl⟩
    · rw [if_neg hki] at hk; exact ⟨y, hk, rfl, rfl⟩
  · intro y hk
    rw [find_setIn]
    by_cases hki : k = id
    · subst hki; rw [if_pos rfl, he]; exact ⟨_, rfl⟩
    · rw [if_neg hki]; exact ⟨y, hk⟩

mutual
theorem frz_ok (ids : List Nat) : ∀ (x : AV) (s : St) (ow : Nat → Option Nat), RelAt C n F s a W hdr ow → ∃ ow', RelAt C n F { s with heap := frz ids s.heap x } a W hdr ow' ∧ Frzd s.heap (frz ids s.heap x)
  | .h id, s, ow, r => by
    simp only [frz]
    split
    · exact ⟨ow, r, Frzd.refl _⟩
    · split
      · rename_i e he
        split
        · exact ⟨ow, r, Frzd.refl _⟩
        · rename_i hz; exact ⟨_, r.freeze he (fun h => hz (.inr h)), Frzd.setIn he⟩
      · exact ⟨ow, r, Frzd.refl _⟩
  | .fn f l, s, ow, r => by simp only [frz]; exact frzs_ok ids l s ow r
  | .u, s, ow, r => by simp only [frz]; exact ⟨ow, r, Frzd.refl _⟩
  | .v _, s, ow, r => by simp only [frz]; exact ⟨ow, r, Frzd.refl _⟩
  | .ptr id _ _, s, ow, r => by
    simp only [frz]
    split
    · exact ⟨ow, r, Frzd.refl _⟩
    · split
      · rename_i e he
        split
        · exact ⟨ow, r, Frzd.refl _⟩
        · rename_i hz; exact ⟨_, r.freeze he (fun h => hz (.inr h)), Frzd.setIn he⟩
      · exact ⟨ow, r, Frzd.refl _⟩
  | .sub _ _ _, s, ow, r => by simp only [frz]; exact ⟨ow, r, Frzd.refl _⟩
  | .ub, s, ow, r => by simp only [frz]; exact ⟨ow, r, Frzd.refl _⟩
  | .rp _, s, ow, r => by simp only [frz]; exact ⟨ow, r, Frzd.refl _⟩
  | .tup _, s, ow, r => by simp only [frz]; exact ⟨ow, r, Frzd.refl _⟩
theorem frzs_ok (ids : List Nat) : ∀ (l : List AV) (s : St) (ow : Nat → Option Nat), RelAt C n F s a W hdr ow → ∃ ow', RelAt C n F { s with heap := frzs ids s.heap l } a W hdr ow' ∧ Frzd s.heap (frzs ids s.heap l)
  | [], s, ow, r => by simp only [frzs]; exact ⟨ow, r, Frzd.refl _⟩
  | x :: l, s, ow, r => by
    simp only [frzs]
    obtain ⟨ow1, r1, h1⟩ := frz_ok ids x s ow r
    obtain ⟨ow2, r2, h2⟩ := frzs_ok ids l _ ow1 r1
    exact ⟨ow2, r2, h1.trans h2⟩
end

theorem idx_get : ∀ {ids : List Nat} {id k0 k : Nat}, idx ids id k0 = some k → k0 ≤ k ∧ ids[k - k0]? = some id
  | [], _, _, _, h => by simp [idx] at h
  | j :: l, id, k0, k, h => by
    simp only [idx] at h
    split at h
    · rename_i hj; cases h; simp [hj]
    · obtain ⟨h1, h2⟩ := idx_get h
      refine ⟨by omega, ?_⟩
      rw [show k - k0 = (k - (k0 + 1)) + 1 by omega, List.getElem?_cons_succ]; exact h2

theorem idx_none : ∀ {ids : List Nat} {id k0 : Nat}, idx ids id k0 = none → id ∉ ids
  | [], _, _, _ => by simp
  | j :: l, id, k0, h => by
    simp only [idx] at h
    split at h
    · cases h
    · rename_i hj; intro hm; rcases List.mem_cons.1 hm with rfl | hm; exact hj rfl; exact idx_none h hm

theorem find_passH (H : Heap) : ∀ (ids : List Nat) (k0 k : Nat), find (passH H k0 ids) k = if k0 ≤ k then (ids[k - k0]?).bind (find H) else none
  | [], k0, k => by simp [passH, find]
  | id :: l, k0, k => by
    have ih := find_passH H l (k0 + 1) k
    have hk : ∀ v : Option Ent, (match v with | some e => (k0, e) :: passH H (k0 + 1) l | none => passH H (k0 + 1) l) = (match v with | some e => [(k0, e)] | none => []) ++ passH H (k0 + 1) l := by intro v; cases v <;> rfl
    simp only [passH]
    by_cases h : k = k0
    · subst h
      cases hf : find H id with
      | some e => simp [find, hf]
      | none => simp [ih, hf]; intro hlt; omega
    · have : ∀ e, find ((k0, e) :: passH H (k0 + 1) l) k = find (passH H (k0 + 1) l) k := by intro e; rw [find_cons, if_neg h]
      have hh : find (match find H id with | some e => (k0, e) :: passH H (k0 + 1) l | none => passH H (k0 + 1) l) k = find (passH H (k0 + 1) l) k := by
        cases find H id with
        | some e => exact this e
        | none => rfl
      rw [hh, ih]
      by_cases h2 : k0 ≤ k
      · rw [if_pos (by omega), if_pos h2, show k - k0 = (k - (k0 + 1)) + 1 by omega, List.getElem?_cons_succ]
      · rw [if_neg (by omega), if_neg h2]

/-- The callee's words for the rows. -/
theorem find_in {H : Heap} {ids : List Nat} {k : Nat} {e : Ent} (h : find (passH H 0 ids) k = some e) : ∃ id, ids[k]? = some id ∧ find H id = some e := by
  rw [find_passH, if_pos (by omega), Nat.sub_zero] at h
  exact Option.bind_eq_some_iff.1 h

theorem evs_ok' (r : RelAt C n F s a W hdr ow) {tf : Operand × TypeId → TypeId} : ∀ {xs : List (Operand × TypeId)} {ys : List Opd} {l : List AV}, mapO (fun q => opd P (tf q) q.1) xs = some ys → evs s.env ys = some l →
    RepAs W (OK C W s.heap ow) hdr s.heap l (xs.map fun q => a.eval q.1) ∧ ∀ i, AV.mens l i → F i
  | [], ys, l, hx, hl => by simp [mapO] at hx; subst hx; simp [evs] at hl; subst hl; simp [RepAs, AV.mens]
  | x :: xs, ys, l, hx, hl => by
    simp only [mapO] at hx
    split at hx
    · rename_i y ys' h1 h2
      cases hx
      simp only [evs] at hl
      split at hl
      · rename_i u us h3 h4
        cases hl
        obtain ⟨r1, r2⟩ := opd_ok r h1 h3
        obtain ⟨r3, r4⟩ := evs_ok' r h2 h4
        exact ⟨by simp only [List.map_cons, RepAs]; exact ⟨r1, r3⟩, fun i hi => by simp only [AV.mens] at hi; exact hi.elim (r2 i) (r4 i)⟩
      · cases hl
    · cases hx

section pass
variable {b : Bool} {ids : List Nat} {okC : Nat → Prop}

/-- The arguments, as the callee has them. -/
def hdrI (hdr : Nat → Value) (ids : List Nat) (k : Nat) : Value := match ids[k]? with | some id => hdr id | none => default
def owI (ow : Nat → Option Nat) (ids : List Nat) (k : Nat) : Option Nat := match ids[k]? with | some id => ow id | none => none

mutual
theorem passA_ok (r : RelAt C n F s a W hdr ow) (hok : ∀ j, OK C W s.heap ow j → okC j) (hb : b = true → ∀ id e j, id ∉ ids → find s.heap id = some e → ow id = some j → okC j) :
    ∀ (x y : AV) (v : Value), passA b s.heap ids x = some y → RepA W (OK C W s.heap ow) hdr s.heap x v → RepA W okC (hdrI hdr ids) (passH s.heap 0 ids) y v
  | .h id, y, v, h, hx => by
    simp only [passA] at h
    simp only [RepA] at hx
    split at h
    · rename_i k hk
      cases h
      simp only [RepA]
      intro e he
      obtain ⟨id', h1, h2⟩ := find_in he
      obtain ⟨_, h3⟩ := idx_get hk
      rw [Nat.sub_zero] at h3
      rw [h3] at h1; cases h1
      rw [hx e h2]; simp [hdrI, h3]
    · split at h
      · rename_i e he
        split at h
        · cases h
        rename_i hz
        split at h
        · rename_i hfb
          cases h
          simp only [RepA]
          rw [hx e he]
          by_cases hfr : e.fro = true
          · rcases (r.mem.ent id e he).plain hz with ⟨_, h2, _⟩ | ⟨h1, _, ao, h3⟩ | ⟨h1, _⟩
            · exact RepV.sl (h2.mono fun j hj => ⟨hok j hj, rfl⟩)
            · rw [h1, h3]; exact RepV.sl .nil
            · rw [hfr] at h1; cases h1
          · have hb' := hb (hfb.resolve_left hfr)
            exact RepV.sl (((r.mem.ent id e he).plain hz).shared hok fun j hj => hb' id e j (idx_none ‹idx ids id = none›) he hj)
        · cases h
      · cases h
  | .sub _ _ _, y, v, h, hx => by simp [passA] at h
  | .ub, y, v, h, hx => by simp [passA] at h
  | .ptr id i off, y, v, h, hx => by
    simp only [passA] at h
    simp only [RepA] at hx
    split at h
    · rename_i k hk
      cases h
      simp only [RepA]
      intro e he
      obtain ⟨id', h1, h2⟩ := find_in he
      obtain ⟨_, h3⟩ := idx_get hk
      rw [Nat.sub_zero] at h3
      rw [h3] at h1; cases h1
      simpa [hdrI, h3] using hx e h2
    · rename_i hni
      split at h
      · rename_i e he
        split at h
        · cases h
        rename_i hz
        split at h
        · rename_i hfb
          split at h
          · rename_i w hw
            cases h
            obtain ⟨b0, o0, n0, c0, hx1, rfl⟩ := hx e he
            have hC : RepC W okC (.sl e.sz e.l) [hdr id] := by
              by_cases hfr : e.fro = true
              · rcases (r.mem.ent id e he).plain hz with ⟨_, h2, _⟩ | ⟨h1, _, ao, h3⟩ | ⟨h1, _⟩
                · exact h2.mono fun j hj => ⟨hok j hj, rfl⟩
                · rw [h1, h3]; exact .nil
                · rw [hfr] at h1; cases h1
              · have hb' := hb (hfb.resolve_left hfr)
                exact ((r.mem.ent id e he).plain hz).shared hok fun j hj => hb' id e j (idx_none hni) he hj
            rcases hC.slInv with ⟨h1, _⟩ | ⟨b1, off', cap, c, h1, h2, h3, h4, h5, h6⟩
            · rw [h1] at hw; simp at hw
            · simp only [List.cons.injEq, and_true] at h1
              rw [h1] at hx1
              simp only [Value.slice.injEq, Option.some.injEq, Addr.mk.injEq, and_true] at hx1
              obtain ⟨⟨rfl, rfl⟩, _, _⟩ := hx1
              obtain ⟨g1, g2, g3⟩ := elem_row hz h6 hw
              have g4 := g1.cells
              rw [Ent.w_of hz]
              refine RepA.rpDrop off (b := b1) (o := off' + i * e.sz) ?_
              simp only [RepA]
              exact ⟨b1, _, c, rfl, h2, h3, by rw [g2]; exact g4.1, g4.2⟩
          · cases h
        · cases h
      · cases h
  | .fn f l, y, v, h, hx => by
    simp only [passA] at h
    simp only [RepA] at hx
    split at h
    · rename_i l' hl
      cases h
      simp only [RepA]
      obtain ⟨vs, h1, h2⟩ := hx
      exact ⟨vs, h1, passAs_ok r hok hb l l' vs hl h2⟩
    · cases h
  | .u, y, v, h, hx => by simp only [passA] at h; cases h; simp [RepA]
  | .v p, y, v, h, hx => by
    simp only [passA] at h; cases h
    simp only [RepA] at *
    exact hx.mono fun j hj => ⟨hok j hj, rfl⟩
  | .rp cs, y, v, h, hx => by
    simp only [passA] at h; cases h
    simp only [RepA] at *
    obtain ⟨b, o, c, h1, h2, h3, h4, h5⟩ := hx
    exact ⟨b, o, c, h1, hok b h2, h3, h4.mono fun j hj => ⟨hok j hj, rfl⟩, h5⟩
  | .tup l, y, v, h, hx => by simp [passA] at h
theorem passAs_ok (r : RelAt C n F s a W hdr ow) (hok : ∀ j, OK C W s.heap ow j → okC j) (hb : b = true → ∀ id e j, id ∉ ids → find s.heap id = some e → ow id = some j → okC j) :
    ∀ (l l' : List AV) (vs : List Value), passAs b s.heap ids l = some l' → RepAs W (OK C W s.heap ow) hdr s.heap l vs → RepAs W okC (hdrI hdr ids) (passH s.heap 0 ids) l' vs
  | [], l', [], h, _ => by simp [passAs] at h; subst h; simp [RepAs]
  | [], l', _ :: _, h, hx => by simp [RepAs] at hx
  | _ :: _, l', [], h, hx => by simp [RepAs] at hx
  | x :: l, l', v :: vs, h, hx => by
    simp only [passAs] at h
    simp only [RepAs] at hx
    split at h
    · rename_i y ys h1 h2
      cases h
      simp only [RepAs]
      exact ⟨passA_ok r hok hb x y v h1 hx.1, passAs_ok r hok hb l ys vs h2 hx.2⟩
    · cases h
end
end pass

/-- The callee finds its rows. -/
theorem mem_in (r : RelAt C n F s a W hdr ow) {ids : List Nat} (hn : ids.Nodup) (ok0 : Nat → Prop) (h0 : ∀ j, OK C W s.heap ow j → ok0 j) (hz : ∀ id ∈ ids, ∀ e, find s.heap id = some e → e.pas ∧ ∀ c, e.ref = some c → c ∈ ids) :
    Mem (Cx.of W (ok0) (Own (passH s.heap 0 ids) (owI ow ids))) W (passN s.heap ids) (hdrI hdr ids) (owI ow ids) := by
  have hown : ∀ j, Own (passH s.heap 0 ids) (owI ow ids) j → Own s.heap ow j := by
    rintro j ⟨k, e, hk, ho⟩
    obtain ⟨id, h1, h2⟩ := find_in hk
    simp only [owI, h1] at ho
    exact ⟨id, e, h2, ho⟩
  refine ⟨?_, ?_, ?_, Nat.le_refl _, fun _ _ _ => rfl, rfl, rfl, .refl _⟩
  · intro k e' he'
    obtain ⟨e, he, rfl⟩ := find_ren he'
    obtain ⟨id, h1, h2⟩ := find_in he
    simp only [hdrI, owI, h1]
    obtain ⟨hp, hr⟩ := hz id (List.mem_of_getElem? h1) e h2
    rw [passN, OK_renH]
    exact (r.mem.ent id e h2).ren hp (fun j hj => ⟨⟨⟨.inl (h0 j hj), hj.1.2⟩, fun h => hj.2 (hown j h)⟩, rfl⟩) (fun _ _ => rfl) (fun c hc => by simp only [gi_get hn (hr c hc), hdrI])
  · intro k k' e e' b hk hk' hb hb'
    obtain ⟨e1, hk1, _⟩ := find_ren hk
    obtain ⟨e2, hk2, _⟩ := find_ren hk'
    obtain ⟨id, h1, h2⟩ := find_in hk1
    obtain ⟨id', h1', h2'⟩ := find_in hk2
    simp only [owI, h1] at hb
    simp only [owI, h1'] at hb'
    have := r.mem.inj id id' _ _ b h2 h2' hb hb'
    subst this
    obtain ⟨g1, g2⟩ := List.getElem?_eq_some_iff.1 h1
    obtain ⟨g3, g4⟩ := List.getElem?_eq_some_iff.1 h1'
    exact (List.getElem_inj hn).1 (g2.trans g4.symm)
  · intro k e b hk hb
    obtain ⟨e1, hk1, _⟩ := find_ren hk
    obtain ⟨id, h1, h2⟩ := find_in hk1
    refine ⟨?_, .inl ⟨k, e1, hk1, hb⟩⟩
    simp only [owI, h1] at hb
    exact (r.mem.lt id _ b h2 hb).1

end
end Go.AM
/- Behind a call. -/
set_option linter.all false
namespace Go.AM
open Go
theorem Mem.turn {d e : Inhabited Prop} {C : Cx} {W : World} {H : Heap} {hdr : Nat → Value} {ow : Nat → Option Nat} (hm : @Mem d C W H hdr ow) (ho : @OutLe d C.W0 W → @OutLe e C.W0 W) : @Mem e C W H hdr ow := by
  cases hm with
  | mk h1 h2 h3 h4 h5 h6 h7 h8 => exact @Mem.mk e C W H hdr ow h1 h2 h3 h4 h5 h6 h7 (ho h8)
/-- What holds with all draws told holds without. -/
theorem FOk.any {d : Inhabited Prop} {P : Program} {f : FuncId} {args : List AV} {H H' : Heap} {res : AV} (h : @FOk instInhabitedProp P f args H res H') : @FOk d P f args H res H' :=
  ⟨h.1, fun W ok0 vals hdr ow hm hv => (h.2 W ok0 vals hdr ow (hm.turn fun _ => @OutLe.refl instInhabitedProp W) hv).mono fun e W' he => by
    obtain ⟨v, hdr', ow', h1, h2, h3, h4⟩ := he
    exact ⟨v, hdr', ow', h1, h2.turn fun h => ⟨h.1, fun _ => h.2 True.intro⟩, h3, h4⟩⟩
variable [dr : Inhabited Prop]

theorem find_append {α : Type} (l l' : List (Nat × α)) (t : Nat) : find (l ++ l') t = match find l t with | some x => some x | none => find l' t := by
  induction l with
  | nil => simp [find]
  | cons p l ih =>
    obtain ⟨k, v⟩ := p
    simp only [List.cons_append, find_cons, ih]
    by_cases h : t = k <;> simp [h]

theorem find_strikes (H : Heap) (ids : List Nat) (t : Nat) : find (strikes H ids) t = if t ∈ ids then none else find H t := by
  induction ids generalizing H with
  | nil => simp [strikes]
  | cons j l ih =>
    simp only [strikes, ih, find_strike, List.mem_cons]
    by_cases h : t ∈ l
    · simp [h]
    · by_cases h2 : t = j <;> simp [h, h2]

theorem find_mem {α : Type} {l : List (Nat × α)} {t : Nat} {x : α} (h : find l t = some x) : (t, x) ∈ l := by
  induction l with
  | nil => simp [find] at h
  | cons p l ih =>
    obtain ⟨k, v⟩ := p
    rw [find_cons] at h
    by_cases hk : t = k
    · rw [if_pos hk] at h; cases h; subst hk; simp
    · rw [if_neg hk] at h; exact List.mem_cons_of_mem _ (ih h)

theorem find_map {g : Nat → Nat} {l : Heap} {m : Nat} (hl : ∀ p ∈ l, p.1 < m) (hg : ∀ i j, i < m → j < m → g i = g j → i = j) :
    (∀ k, k < m → find (l.map fun p => (g p.1, p.2)) (g k) = find l k) ∧ (∀ id e, find (l.map fun p => (g p.1, p.2)) id = some e → ∃ k, k < m ∧ g k = id ∧ find l k = some e) := by
  constructor
  · intro k hk
    induction l with
    | nil => simp [find]
    | cons p l ih =>
      obtain ⟨j, v⟩ := p
      have hj := hl (j, v) (by simp)
      simp only [List.map_cons, find_cons, ih fun q hq => hl q (List.mem_cons_of_mem _ hq)]
      by_cases h : k = j
      · subst h; simp
      · rw [if_neg h, if_neg fun e => h (hg k j hk hj e)]
  · intro id e h
    induction l with
    | nil => simp [find] at h
    | cons p l ih =>
      obtain ⟨j, v⟩ := p
      have hj := hl (j, v) (by simp)
      simp only [List.map_cons, find_cons] at h
      by_cases hi : id = g j
      · rw [if_pos hi] at h; cases h
        exact ⟨j, hj, hi.symm, by simp [find]⟩
      · rw [if_neg hi] at h
        obtain ⟨k, h1, h2, h3⟩ := ih (fun q hq => hl q (List.mem_cons_of_mem _ hq)) h
        refine ⟨k, h1, h2, ?_⟩
        rw [find_cons, if_neg (by rintro rfl; exact hi h2.symm)]; exact h3

section
variable {P : Program} {C : Cx} {n : Nat} {F : Nat → Prop} {s : St} {a : Act} {W W' : World} {hdr hdr' : Nat → Value} {ow ow' : Nat → Option Nat} {ids : List Nat} {base : Nat} {Hout Hn : Heap}

theorem bk_inj (hn : ids.Nodup) (hF : ∀ id ∈ ids, F id) (hf : ∀ j, j < 8 → ¬ F (base + 1024 * j)) : ∀ i j, i < ids.length + 8 → j < ids.length + 8 → bk ids base i = bk ids base j → i = j := by
  intro i j hi hj h
  unfold bk at h
  cases e1 : ids[i]? with
  | some x =>
    cases e2 : ids[j]? with
    | some y =>
      rw [e1, e2] at h
      simp only at h
      subst h
      obtain ⟨g1, g2⟩ := List.getElem?_eq_some_iff.1 e1
      obtain ⟨g3, g4⟩ := List.getElem?_eq_some_iff.1 e2
      exact (List.getElem_inj hn).1 (g2.trans g4.symm)
    | none =>
      rw [e1, e2] at h
      simp only at h
      have := hF x (List.mem_of_getElem? e1)
      rw [h] at this
      have hjl := List.getElem?_eq_none_iff.1 e2
      exact (hf (j - ids.length) (by omega) this).elim
  | none =>
    have hil := List.getElem?_eq_none_iff.1 e1
    cases e2 : ids[j]? with
    | some y =>
      rw [e1, e2] at h
      simp only at h
      have := hF y (List.mem_of_getElem? e2)
      rw [← h] at this
      exact (hf (i - ids.length) (by omega) this).elim
    | none =>
      rw [e1, e2] at h
      simp only at h
      have hjl := List.getElem?_eq_none_iff.1 e2
      omega

/-- Where the number of a row comes from. -/
def src (ids : List Nat) (base : Nat) (Hout : Heap) (id : Nat) : Prop := ∃ k, k < ids.length + 8 ∧ bk ids base k = id ∧ (find Hout k).isSome = true

open Classical in
noncomputable def joinF {α : Type} (ids : List Nat) (base : Nat) (Hout : Heap) (f' f : Nat → α) (id : Nat) : α :=
  if h : src ids base Hout id then f' (Classical.choose h) else f id

theorem joinF_src {α : Type} {f' f : Nat → α} (hinj : ∀ i j, i < ids.length + 8 → j < ids.length + 8 → bk ids base i = bk ids base j → i = j) {k : Nat} {e : Ent} (hk : k < ids.length + 8) (he : find Hout k = some e) :
    joinF ids base Hout f' f (bk ids base k) = f' k := by
  have h : src ids base Hout (bk ids base k) := ⟨k, hk, rfl, by rw [he]; rfl⟩
  unfold joinF
  rw [dif_pos h]
  obtain ⟨h1, h2, h3⟩ := Classical.choose_spec h
  rw [hinj _ k h1 hk h2]

theorem joinF_not {α : Type} {f' f : Nat → α} {id : Nat} (h : ¬ src ids base Hout id) : joinF ids base Hout f' f id = f id := by
  unfold joinF; rw [dif_neg h]

theorem merge (r : RelAt C n F s a W hdr ow) (hn : ids.Nodup) (hfound : ∀ id ∈ ids, (find s.heap id).isSome = true) (hfr : ∀ j, j < 8 → ¬ F (base + 1024 * j))
    {Hout0 : Heap} (me : Mem (Cx.of W (OK C W s.heap ow) (Own (passH s.heap 0 ids) (owI ow ids))) W' Hout0 hdr' ow') (hE : Hout = renH (bk ids base) Hout0) (hkeys0 : ∀ p ∈ Hout0, p.1 < ids.length + 8)
    (hz0 : ∀ p ∈ Hout0, p.2.pas ∧ ∀ c, p.2.ref = some c → (find Hout0 c).isSome = true)
    (hhdr : ∀ k e e', find (passH s.heap 0 ids) k = some e → find Hout k = some e' → hdr' k = hdrI hdr ids k ∧ e'.sz = e.sz)
    (hHn : ∀ k, find Hn k = find (outH s.heap ids base Hout) k) :
    RelAt C n (fun i => F i ∨ ∃ j, j < 8 ∧ i = base + 1024 * j) ⟨s.env, Hn, s.nx⟩ a W' (joinF ids base Hout hdr' hdr) (joinF ids base Hout ow' ow) ∧
      (∀ b, OK (Cx.of W (OK C W s.heap ow) (Own (passH s.heap 0 ids) (owI ow ids))) W' Hout ow' b → OK C W' Hn (joinF ids base Hout ow' ow) b) ∧
      (∀ k e, k < ids.length + 8 → find Hn (bk ids base k) = some e → find Hout k = some e) := by
  have hkeys : ∀ p ∈ Hout, p.1 < ids.length + 8 := fun p hp => by
    rw [hE] at hp
    obtain ⟨q, hq, rfl⟩ := List.mem_map.1 hp
    exact hkeys0 q hq
  have me_inj : ∀ k k' e e' b, find Hout k = some e → find Hout k' = some e' → ow' k = some b → ow' k' = some b → k = k' := fun k k' e e' b h1 h2 => by
    rw [hE] at h1 h2
    obtain ⟨_, h3, _⟩ := find_ren h1
    obtain ⟨_, h4, _⟩ := find_ren h2
    exact me.inj k k' _ _ b h3 h4
  have me_lt : ∀ k e b, find Hout k = some e → ow' k = some b → b < W'.heap.size ∧ ((Own (passH s.heap 0 ids) (owI ow ids)) b ∨ W.heap.size ≤ b) := fun k e b h1 => by
    rw [hE] at h1
    obtain ⟨_, h3, _⟩ := find_ren h1
    exact me.lt k _ b h3
  have hF : ∀ id ∈ ids, F id := fun id hi => by
    obtain ⟨e, he⟩ := Option.isSome_iff_exists.1 (hfound id hi)
    exact r.idsH id e he
  have hinj := bk_inj (base := base) hn hF hfr
  obtain ⟨hm1, hm2⟩ := find_map hkeys hinj
  -- the rows behind the call
  have hA : ∀ id e, find Hn id = some e → (∃ k, k < ids.length + 8 ∧ bk ids base k = id ∧ find Hout k = some e) ∨ (¬ src ids base Hout id ∧ id ∉ ids ∧ find s.heap id = some e) := by
    intro id e he
    rw [hHn, outH, find_append] at he
    cases hx : find (Hout.map fun p => (bk ids base p.1, p.2)) id with
    | some e' =>
      rw [hx] at he; cases he
      exact .inl (hm2 id _ hx)
    | none =>
      rw [hx] at he
      simp only [find_strikes] at he
      split at he
      · cases he
      · rename_i hni
        refine .inr ⟨?_, hni, he⟩
        rintro ⟨k, h1, rfl, h3⟩
        rw [hm1 k h1] at hx
        rw [hx] at h3; cases h3
  have hB : ∀ k e, k < ids.length + 8 → find Hn (bk ids base k) = some e → find Hout k = some e := by
    intro k e hk he
    rcases hA _ e he with ⟨k', h1, h2, h3⟩ | ⟨h1, h2, h3⟩
    · have := hinj k' k h1 hk h2; subst this; exact h3
    · exfalso
      unfold bk at h2 h3
      cases e1 : ids[k]? with
      | some x => rw [e1] at h2; exact h2 (List.mem_of_getElem? e1)
      | none =>
        rw [e1] at h3
        have hjl := List.getElem?_eq_none_iff.1 e1
        exact hfr (k - ids.length) (by omega) (r.idsH _ e h3)
  have hownI : ∀ b, Own (passH s.heap 0 ids) (owI ow ids) b → ∃ id e, id ∈ ids ∧ find s.heap id = some e ∧ ow id = some b := by
    rintro b ⟨k, e, hk, ho⟩
    obtain ⟨id, h1, h2⟩ := find_in hk
    simp only [owI, h1] at ho
    exact ⟨id, e, List.mem_of_getElem? h1, h2, ho⟩
  have hrest : ∀ id e b, id ∉ ids → find s.heap id = some e → ow id = some b → b < W.heap.size ∧ ¬ Own (passH s.heap 0 ids) (owI ow ids) b := by
    intro id e b hni he hb
    refine ⟨(r.mem.lt id e b he hb).1, fun h => ?_⟩
    obtain ⟨id', e', h1, h2, h3⟩ := hownI b h
    have := r.mem.inj id id' e e' b he h2 hb h3
    subst this; exact hni h1
  have hokA : ∀ b, OK (Cx.of W (OK C W s.heap ow) (Own (passH s.heap 0 ids) (owI ow ids))) W' Hout ow' b → OK C W' Hn (joinF ids base Hout ow' ow) b := by
    rintro b ⟨⟨hv, hlt⟩, hno⟩
    refine ⟨⟨?_, hlt⟩, ?_⟩
    · rcases hv with h | h | h
      · exact h.1.1
      · obtain ⟨id, e, _, h2, h3⟩ := hownI b h
        exact .inr (r.mem.lt id e b h2 h3).2
      · exact .inr (.inr (Nat.le_trans r.mem.size h))
    · rintro ⟨id, e, he, ho⟩
      rcases hA id e he with ⟨k, h1, rfl, h3⟩ | ⟨h1, h2, h3⟩
      · rw [joinF_src hinj h1 h3] at ho; exact hno ⟨k, e, h3, ho⟩
      · rw [joinF_not h1] at ho
        obtain ⟨g1, g2⟩ := hrest id e b h2 h3 ho
        rcases hv with h | h | h
        · exact h.2 ⟨id, e, h3, ho⟩
        · exact g2 h
        · have : W.heap.size ≤ b := h; omega
  have hokB : ∀ b, OK C W s.heap ow b → OK C W' Hn (joinF ids base Hout ow' ow) b ∧ W'.heap[b]? = W.heap[b]? := by
    intro b hb
    have hni : ¬ Own (passH s.heap 0 ids) (owI ow ids) b := fun h => by
      obtain ⟨id, e, _, h2, h3⟩ := hownI b h
      exact hb.2 ⟨id, e, h2, h3⟩
    refine ⟨hokA b ⟨⟨.inl hb, Nat.lt_of_lt_of_le hb.1.2 me.size⟩, ?_⟩, me.frame b hb.1.2 hni⟩
    rintro ⟨k, e, hk, ho⟩
    rcases (me_lt k e b hk ho).2 with h | h
    · exact hni h
    · exact Nat.lt_irrefl _ (Nat.lt_of_lt_of_le hb.1.2 h)
  have hold : ∀ id, F id → ∀ e', find Hn id = some e' → ∃ e, find s.heap id = some e ∧ joinF ids base Hout hdr' hdr id = hdr id ∧ e'.sz = e.sz := by
    intro id hFi e' he'
    rcases hA id e' he' with ⟨k, h1, rfl, h3⟩ | ⟨h1, h2, h3⟩
    · rw [joinF_src hinj h1 h3]
      cases e1 : ids[k]? with
      | some y =>
        have hy : bk ids base k = y := by unfold bk; rw [e1]
        rw [hy]
        obtain ⟨e0, he0⟩ := Option.isSome_iff_exists.1 (hfound y (List.mem_of_getElem? e1))
        have hin : find (passH s.heap 0 ids) k = some e0 := by rw [find_passH, if_pos (Nat.zero_le _), Nat.sub_zero, e1]; exact he0
        obtain ⟨q1, q2⟩ := hhdr k e0 e' hin h3
        exact ⟨e0, he0, by rw [q1]; simp [hdrI, e1], q2⟩
      | none =>
        exfalso
        have hjl := List.getElem?_eq_none_iff.1 e1
        have hy : bk ids base k = base + 1024 * (k - ids.length) := by unfold bk; rw [e1]
        rw [hy] at hFi
        exact hfr (k - ids.length) (by omega) hFi
    · exact ⟨e', h3, by rw [joinF_not h1], rfl⟩
  have hjoin : ∀ c, F c → joinF ids base Hout hdr' hdr c = hdr c := by
    intro c hFc
    by_cases hs : src ids base Hout c
    · obtain ⟨k, g1, g2, g3⟩ := hs
      obtain ⟨e', he'⟩ := Option.isSome_iff_exists.1 g3
      subst g2
      rw [joinF_src hinj g1 he']
      cases e1 : ids[k]? with
      | some y =>
        have hy : bk ids base k = y := by unfold bk; rw [e1]
        rw [hy]
        obtain ⟨e0, he0⟩ := Option.isSome_iff_exists.1 (hfound y (List.mem_of_getElem? e1))
        have hin : find (passH s.heap 0 ids) k = some e0 := by rw [find_passH, if_pos (Nat.zero_le _), Nat.sub_zero, e1]; exact he0
        obtain ⟨q1, q2⟩ := hhdr k e0 e' hin he'
        rw [q1]; simp [hdrI, e1]
      | none =>
        exfalso
        have hjl := List.getElem?_eq_none_iff.1 e1
        have hy : bk ids base k = base + 1024 * (k - ids.length) := by unfold bk; rw [e1]
        rw [hy] at hFc
        exact hfr (k - ids.length) (by omega) hFc
    · exact joinF_not hs
  refine ⟨⟨⟨?_, ?_, ?_, Nat.le_trans r.mem.size me.size, ?_, me.os.trans r.mem.os, me.tape.trans r.mem.tape, me.output.trans r.mem.output⟩, r.defers, r.tsz, ?_, fun t x hx i hi => .inl (r.idsE t x hx i hi), ?_, fun k hk => .inl (r.idsG k hk), ?_, ?_⟩, hokA, hB⟩
  · intro id e he
    rcases hA id e he with ⟨k, h1, rfl, h3⟩ | ⟨h1, h2, h3⟩
    · rw [joinF_src hinj h1 h3, joinF_src hinj h1 h3]
      rw [hE] at h3
      obtain ⟨e0, h4, rfl⟩ := find_ren h3
      obtain ⟨g1, g2⟩ := hz0 _ (find_mem h4)
      refine (me.ent k e0 h4).ren g1 (fun b hb => ⟨hokA b (by rw [hE, OK_renH]; exact hb), rfl⟩) (fun _ _ => rfl) (fun c hc => ?_)
      obtain ⟨e1, h5⟩ := Option.isSome_iff_exists.1 (g2 c hc)
      exact joinF_src hinj (hkeys0 _ (find_mem h5)) (by rw [hE, find_renH, h5]; rfl)
    · rw [joinF_not h1, joinF_not h1]
      refine (r.mem.ent id e h3).mono hokB (fun b hb => ?_) (fun c hc => hjoin c (r.idsR id e c h3 hc))
      obtain ⟨g1, g2⟩ := hrest id e b h2 h3 hb
      exact me.frame b g1 g2
  · intro id id' e e' b he he' hb hb'
    rcases hA id e he with ⟨k, h1, rfl, h3⟩ | ⟨h1, h2, h3⟩ <;> rcases hA id' e' he' with ⟨k', h1', rfl, h3'⟩ | ⟨h1', h2', h3'⟩
    · rw [joinF_src hinj h1 h3] at hb; rw [joinF_src hinj h1' h3'] at hb'
      rw [me_inj k k' e e' b h3 h3' hb hb']
    · rw [joinF_src hinj h1 h3] at hb; rw [joinF_not h1'] at hb'
      obtain ⟨g1, g2⟩ := hrest id' e' b h2' h3' hb'
      rcases (me_lt k e b h3 hb).2 with h | h
      · exact (g2 h).elim
      · have : W.heap.size ≤ b := h; omega
    · rw [joinF_src hinj h1' h3'] at hb'; rw [joinF_not h1] at hb
      obtain ⟨g1, g2⟩ := hrest id e b h2 h3 hb
      rcases (me_lt k' e' b h3' hb').2 with h | h
      · exact (g2 h).elim
      · have : W.heap.size ≤ b := h; omega
    · rw [joinF_not h1] at hb; rw [joinF_not h1'] at hb'
      exact r.mem.inj id id' e e' b h3 h3' hb hb'
  · intro id e b he hb
    rcases hA id e he with ⟨k, h1, rfl, h3⟩ | ⟨h1, h2, h3⟩
    · rw [joinF_src hinj h1 h3] at hb
      obtain ⟨g1, g2⟩ := me_lt k e b h3 hb
      refine ⟨g1, ?_⟩
      rcases g2 with h | h
      · obtain ⟨id', e', _, q2, q3⟩ := hownI b h
        exact (r.mem.lt id' e' b q2 q3).2
      · exact .inr (Nat.le_trans r.mem.size h)
    · rw [joinF_not h1] at hb
      have := r.mem.lt id e b h3 hb
      exact ⟨Nat.lt_of_lt_of_le this.1 me.size, this.2⟩
  · intro b hb ho
    rw [me.frame b (Nat.lt_of_lt_of_le hb r.mem.size) ?_]
    · exact r.mem.frame b hb ho
    · intro h
      obtain ⟨id', e', _, q2, q3⟩ := hownI b h
      rcases (r.mem.lt id' e' b q2 q3).2 with h | h
      · exact ho h
      · omega
  · exact fun t x hx => RepA.mono hokB x _ (fun id hi e' he' => hold id (r.idsE t x hx id hi) e' he') (r.env t x hx)
  · intro id e he
    rcases hA id e he with ⟨k, h1, rfl, h3⟩ | ⟨h1, h2, h3⟩
    · unfold bk
      cases e1 : ids[k]? with
      | some y => exact .inl (hF y (List.mem_of_getElem? e1))
      | none =>
        have hjl := List.getElem?_eq_none_iff.1 e1
        exact .inr ⟨k - ids.length, by omega, rfl⟩
    · exact .inl (r.idsH id e h3)
  · intro k hk e' he'
    obtain ⟨e, g1, g2, _⟩ := hold k (r.idsG k hk) e' he'
    rw [g2]; exact r.gh k hk e g1
  · intro id e c he hc
    rcases hA id e he with ⟨k, h1, rfl, h3⟩ | ⟨h1, h2, h3⟩
    · rw [hE] at h3
      obtain ⟨e0, h4, rfl⟩ := find_ren h3
      obtain ⟨g1, g2⟩ := hz0 _ (find_mem h4)
      obtain ⟨c0, h5, rfl⟩ := refs_ren g1 hc
      obtain ⟨e1, h6⟩ := Option.isSome_iff_exists.1 (g2 c0 h5)
      have h7 := hkeys0 _ (find_mem h6)
      simp only at h7
      unfold bk
      cases e1 : ids[c0]? with
      | some y => exact .inl (hF y (List.mem_of_getElem? e1))
      | none =>
        have hjl := List.getElem?_eq_none_iff.1 e1
        exact .inr ⟨c0 - ids.length, by omega, rfl⟩
    · exact .inl (r.idsR id e c h3 hc)

mutual
theorem back_ok {okI okC : Nat → Prop} {hdrN : Nat → Value} (hok : ∀ b, okI b → okC b) (hB : ∀ k e, k < ids.length + 8 → find Hn (bk ids base k) = some e → find Hout k = some e ∧ hdrN (bk ids base k) = hdr' k) :
    ∀ (x : AV) (v : Value), (∀ k, x.men k → k < ids.length + 8) → RepA W' okI hdr' Hout x v → RepA W' okC hdrN Hn (backA ids base x) v
  | .h k, v, hm, h => by
    simp only [backA, RepA] at *
    intro e he
    obtain ⟨h1, h2⟩ := hB k e (hm k (by simp [AV.men])) he
    rw [h2]; exact h e h1
  | .ptr k i off, v, hm, h => by
    simp only [backA, RepA] at *
    intro e he
    obtain ⟨h1, h2⟩ := hB k e (hm k (by simp [AV.men])) he
    rw [h2]; exact h e h1
  | .sub k i off, v, hm, h => by
    simp only [backA, RepA] at *
    intro e he
    obtain ⟨h1, h2⟩ := hB k e (hm k (by simp [AV.men])) he
    rw [h2]; exact h e h1
  | .fn f l, v, hm, h => by
    simp only [backA, RepA] at *
    obtain ⟨vs, h1, h2⟩ := h
    exact ⟨vs, h1, backs_ok hok hB l vs (by simpa [AV.men] using hm) h2⟩
  | .tup l, v, hm, h => by
    simp only [backA, RepA] at *
    obtain ⟨vs, h1, h2⟩ := h
    exact ⟨vs, h1, backs_ok hok hB l vs (by simpa [AV.men] using hm) h2⟩
  | .u, v, hm, h => by simp [backA, RepA]
  | .ub, v, hm, h => by simp only [backA, RepA] at *; exact h
  | .v p, v, hm, h => by simp only [backA, RepA] at *; exact h.mono fun b hb => ⟨hok b hb, rfl⟩
  | .rp cs, v, hm, h => by
    simp only [backA, RepA] at *
    obtain ⟨b, o, c, h1, h2, h3, h4, h5⟩ := h
    exact ⟨b, o, c, h1, hok b h2, h3, h4.mono fun j hj => ⟨hok j hj, rfl⟩, h5⟩
theorem backs_ok {okI okC : Nat → Prop} {hdrN : Nat → Value} (hok : ∀ b, okI b → okC b) (hB : ∀ k e, k < ids.length + 8 → find Hn (bk ids base k) = some e → find Hout k = some e ∧ hdrN (bk ids base k) = hdr' k) :
    ∀ (l : List AV) (vs : List Value), (∀ k, AV.mens l k → k < ids.length + 8) → RepAs W' okI hdr' Hout l vs → RepAs W' okC hdrN Hn (backAs ids base l) vs
  | [], [], _, _ => by simp [backAs, RepAs]
  | [], _ :: _, _, h => by simp [RepAs] at h
  | _ :: _, [], _, h => by simp [RepAs] at h
  | x :: l, v :: vs, hm, h => by
    simp only [backAs, RepAs] at *
    exact ⟨back_ok hok hB x v (fun k hk => hm k (by simp [AV.mens, hk])) h.1, backs_ok hok hB l vs (fun k hk => hm k (by simp [AV.mens, hk])) h.2⟩
end

mutual
theorem men_back : ∀ (x : AV) (i : Nat), (backA ids base x).men i → ∃ k, x.men k ∧ bk ids base k = i
  | .h k, i, h => by simp only [backA, AV.men] at *; exact ⟨k, rfl, h⟩
  | .ptr k _ _, i, h => by simp only [backA, AV.men] at *; exact ⟨k, rfl, h⟩
  | .sub k _ _, i, h => by simp only [backA, AV.men] at *; exact ⟨k, rfl, h⟩
  | .fn f l, i, h => by simp only [backA, AV.men] at *; exact mens_back l i h
  | .tup l, i, h => by simp only [backA, AV.men] at *; exact mens_back l i h
  | .u, i, h => by simp [backA, AV.men] at h
  | .ub, i, h => by simp [backA, AV.men] at h
  | .v _, i, h => by simp [backA, AV.men] at h
  | .rp _, i, h => by simp [backA, AV.men] at h
theorem mens_back : ∀ (l : List AV) (i : Nat), AV.mens (backAs ids base l) i → ∃ k, AV.mens l k ∧ bk ids base k = i
  | [], i, h => by simp [backAs, AV.mens] at h
  | x :: l, i, h => by
    simp only [backAs, AV.mens] at h
    rcases h with h | h
    · obtain ⟨k, h1, h2⟩ := men_back x i h; exact ⟨k, by simp [AV.mens, h1], h2⟩
    · obtain ⟨k, h1, h2⟩ := mens_back l i h; exact ⟨k, by simp [AV.mens, h1], h2⟩
end

end
end Go.AM
/- One step of a region. -/
set_option linter.all false
namespace Go.AM
open Go
variable [dr : Inhabited Prop]

section
variable (P : Program) (ows : List Nat) (n : Nat)

/-- Operations that put nothing into a slot. -/
def MOp.lS : MOp → Bool | .stt .. => true | .mup .. => true | _ => false
def asSto (m : MOp) : Option MOp := if m.lS = true then some m else none
def asClr : MOp → Option (Nat × Bool × List PV × Opd) | .clr sz agg z x => some (sz, agg, z, x) | _ => none
theorem asSto_ok {om : Option MOp} {m : MOp} (h : om.bind asSto = some m) : om = some m ∧ m.lS = true := by
  cases om with
  | none => cases h
  | some m' =>
    simp only [Option.bind_some, asSto] at h
    split at h
    · cases h; exact ⟨rfl, ‹_›⟩
    · cases h
theorem asClr_ok {om : Option MOp} {sz : Nat} {agg : Bool} {z : List PV} {x : Opd} (h : om.bind asClr = some (sz, agg, z, x)) : om = some (.clr sz agg z x) := by
  cases om with
  | none => cases h
  | some m => cases m <;> simp [asClr] at h; obtain ⟨rfl, rfl, rfl, rfl⟩ := h; rfl
def notPtr : TypeDesc → Bool | .pointer _ => false | _ => true
/-- The function that a type has for a method's name. -/
def mrow (name : String) (t : Nat) : Option (Nat × Nat) := match P.info? t, P.underlying t with
  | some i, some d => match i.methods.find? (·.name == name) with
    | some m => match m.func with
      | some (f, false) => if m.path.isEmpty = true ∧ notPtr d = true then some (t, f) else none
      | _ => none
    | none => none
  | _, _ => none
def mtab (name : String) : List (Nat × Nat) := (List.range P.types.size).filterMap (mrow P name)

def cGuard (ops : Array Oper) : Option (Nat × Bool) → Option (Option (Nat × Bool))
  | none => some none
  | some (j, w) => match (ops[j]?).bind (·.dst) with
    | some t => some (some (t, w))
    | none => none

def cO (ops : Array Oper) (o : Oper) : Option MO :=
  match cGuard ops o.guard with
  | none => none
  | some g => match o.op, o.dst with
    | .call { callee := .value f, args := as, argTypes := ts }, some d => if d < n ∧ d < 1024 ∧ as.size = ts.size then (match opd P 0 f, mapO (fun q => opd P (if ows.contains (d + 300000) = true then nilT else q.2) q.1) (as.toList.zip ts.toList) with
      | some f, some xs => some (.call g d f xs)
      | _, _ => none) else none
    | .call { callee := .invoke (.tmp rr) name, args := as, argTypes := ts }, some d => if d < n ∧ d < 1024 ∧ as.size = ts.size then (match mapO (fun q => opd P (if ows.contains (d + 300000) = true then nilT else q.2) q.1) (as.toList.zip ts.toList) with
      | some xs => some (.call g d (.im rr (mtab P name)) (.pl rr :: xs))
      | _ => none) else none
    | .store _ _ _, none => ((cOp P ows o).bind asSto).map (.store g)
    | .mapUpdate _ _ _ _, none => ((cOp P ows o).bind asSto).map (.store g)
    | _, some d => if d < n ∧ d < 1024 then (cOp P ows o).map (.op g d) else none
    | _, none => match g, (cOp P ows o).bind asClr with
      | none, some (sz, agg, z, x) => some (.op none 1023 (.clr sz agg z x))
      | _, _ => none
end

def guardOf (E : Env) : Option (Nat × Bool) → Option Bool
  | none => some true
  | some (t, w) => match find E t with
    | some (.v (.w (.bool b))) => some (b == w)
    | some (.tup _) => some false
    | _ => none

/-- Rows that the operands name. -/
def Named' (E : Env) (xs : List Opd) (k : Nat) : Prop := ∃ y ∈ xs, ∃ u, ev E y = some u ∧ u.men k

def MO.dst : MO → Option Nat
  | .op _ d _ => some d
  | .store .. => none
  | .inc .. => none
  | .call _ d _ _ => some d

/-- A call that leaves the rows that there are as they were. -/
inductive CallQ (P : Program) (s : St) (d : Nat) (f : Opd) (args : List Opd) : AV → Heap → Prop
  | lent {u : AV} {fid : FuncId} {caps as ys : List AV} {res : AV} : ev s.env f = some u → fnOf u = some (fid, caps) → evs s.env args = some as →
      passAs true s.heap [] (as ++ caps) = some ys → FOk P fid ys [] res [] → flatA res = true → CallQ P s d f args res []
  | plain {u : AV} {fid : FuncId} {caps as ys : List AV} {res : AV} {Hout : Heap} : ev s.env f = some u → fnOf u = some (fid, caps) → evs s.env args = some as →
      passAs false s.heap [] (as ++ caps) = some ys → FOk P fid ys [] res Hout → (∀ p ∈ Hout, p.1 < 8 ∧ p.2.sol) → (∀ k, res.men k → k < 8) → CallQ P s d f args (backA [] (s.nx + d) res) (Hout.map fun p => (bk [] (s.nx + d) p.1, p.2))
  | same {u : AV} {fid : FuncId} {caps as ys : List AV} {ids : List Nat} {res : AV} : ev s.env f = some u → fnOf u = some (fid, caps) → evs s.env args = some as →
      passAs false s.heap ids (as ++ caps) = some ys → ids.Nodup → (∀ id ∈ ids, ∃ e, find s.heap id = some e ∧ e.sol) → FOk P fid ys (passH s.heap 0 ids) res (passH s.heap 0 ids) → (∀ k, res.men k → k < ids.length) → (∀ id ∈ ids, Named' s.env (args ++ [f]) id) →
      CallQ P s d f args (backA ids (s.nx + d) res) []

inductive AStep (P : Program) (q : Bool) : St → MO → St → Prop
  | skip {s : St} {g : Option (Nat × Bool)} {d : Nat} {m : MOp} : guardOf s.env g = some false → AStep P q s (.op g d m) ⟨(d, .tup []) :: s.env, s.heap, s.nx⟩
  | skipC {s : St} {g : Option (Nat × Bool)} {d : Nat} {f : Opd} {as : List Opd} : guardOf s.env g = some false → AStep P q s (.call g d f as) ⟨(d, .tup []) :: s.env, s.heap, s.nx⟩
  | skipS {s : St} {g : Option (Nat × Bool)} {m : MOp} : guardOf s.env g = some false → AStep P q s (.store g m) s
  | op {s : St} {g : Option (Nat × Bool)} {d : Nat} {m : MOp} {x : AV} {H' : Heap} : guardOf s.env g = some true → mval q s.env s.heap (s.nx + d) m = some (x, H') → AStep P q s (.op g d m) ⟨(d, x) :: s.env, H', s.nx⟩
  | store {s : St} {g : Option (Nat × Bool)} {m : MOp} {y : AV} {H' : Heap} : guardOf s.env g = some true → m.lS = true → mval q s.env s.heap s.nx m = some (y, H') → AStep P q s (.store g m) ⟨s.env, H', s.nx⟩
  | call {s s' : St} {g : Option (Nat × Bool)} {d : Nat} {f : Opd} {as : List Opd} : guardOf s.env g = some true → CallOk P s d f as s' → q = false → AStep P q s (.call g d f as) s'
  | callQ {s : St} {g : Option (Nat × Bool)} {d : Nat} {f : Opd} {as : List Opd} {x : AV} {N : Heap} : guardOf s.env g = some true → CallQ P s d f as x N → AStep P q s (.call g d f as) ⟨(d, x) :: s.env, N ++ s.heap, s.nx⟩

section
variable {P : Program} {C : Cx} {n : Nat} {F : Nat → Prop} {s s' : St} {a : Act} {W : World} {hdr : Nat → Value} {ow : Nat → Option Nat} {id : Nat} {o : Oper} {ows : List Nat} {ops : Array Oper}
  {Q : Exit → Act → World → Prop} {K : Act → World → Prop}

theorem tmps_of {a : Act} {t : Nat} {b : Bool} (h : a.tmps.getD t undef = .bool b) : a.tmps[t]? = some (.bool b) := by
  rw [Array.getD_eq_getD_getElem?] at h
  cases e : a.tmps[t]? with
  | none => rw [e] at h; simp [undef] at h
  | some v => rw [e] at h; simpa using h

/-- The guard. -/
theorem guard_ok (r : RelAt C n F s a W hdr ow) {g : Option (Nat × Bool)} {b : Bool} (hc : cGuard ops o.guard = some g) (hg : guardOf s.env g = some b) : Region.wanted o (yielded ops a.tmps) = b := by
  unfold cGuard at hc
  unfold Region.wanted
  split at hc
  · rename_i h
    cases hc
    simp only [guardOf, Option.some.injEq] at hg
    rw [h]; exact hg
  · rename_i j w h
    split at hc
    · rename_i t ht
      cases hc
      simp only [guardOf] at hg
      split at hg
      · rename_i c hcv
        cases hg
        have hv := r.env t _ hcv
        simp only [RepA] at hv
        have := tmps_of hv.wInv.1
        rw [h]
        simp only [yielded, ht, Option.bind_some, this]
        cases c <;> cases w <;> rfl
      · rename_i l hcv
        cases hg
        have hv := r.env t _ hcv
        simp only [RepA] at hv
        obtain ⟨vs, hv, _⟩ := hv
        rw [h]
        rw [Array.getD_eq_getD_getElem?] at hv
        simp only [yielded, ht, Option.bind_some]
        cases e : a.tmps[t]? with
        | none => cases w <;> rfl
        | some v => rw [e] at hv; simp at hv; subst hv; cases w <;> rfl
      · cases hg
    · cases hc

theorem capAs_ok {ok : Nat → Prop} {H : Heap} : ∀ (ps : List PV) (vs : List Value) (l : List AV), capAs ps = some l → RepL W ok 1 ps vs → RepAs W ok hdr H l vs ∧ ∀ i, ¬ AV.mens l i
  | [], vs, l, h, hr => by
    cases hr
    simp only [capAs, Option.some.injEq] at h
    subst h
    exact ⟨by simp [RepAs], by simp [AV.mens]⟩
  | p :: ps, vs, l, h, hr => by
    cases hr with
    | cons h1 h2 h3 =>
      cases h2 with
      | pt a1 a2 a3 a4 =>
        simp only [capAs] at h
        split at h
        · rename_i l' hl
          cases h
          obtain ⟨g1, g2⟩ := capAs_ok ps _ l' hl h3
          refine ⟨?_, fun i hi => ?_⟩
          · simp only [List.singleton_append, RepAs, RepA]
            exact ⟨⟨_, _, _, rfl, a1, a2, a4, a3⟩, g1⟩
          · simp only [AV.mens, AV.men, false_or] at hi; exact g2 i hi
        · cases h
      | _ => simp [capAs] at h

theorem fnOf_ok {ok : Nat → Prop} {H : Heap} {u : AV} {fid : FuncId} {caps : List AV} {v : Value} (h : fnOf u = some (fid, caps)) (hu : RepA W ok hdr H u v) : ∃ vs : List Value, v = .func (.func fid) #[] vs.toArray ∧ RepAs W ok hdr H caps vs := by
  unfold fnOf at h
  split at h
  · cases h; simp only [RepA] at hu; exact hu
  · split at h
    · rename_i hz
      cases h
      simp only [RepA] at hu
      refine ⟨[], ?_, by simp [RepAs]⟩
      rw [hu.wInv.1, Array.eq_empty_of_size_eq_zero hz.1, Array.eq_empty_of_size_eq_zero hz.2]
    · cases h
  · split at h
    · rename_i l hl
      cases h
      simp only [RepA] at hu
      unfold RepV at hu
      simp only [PV.isSt, Bool.false_eq_true, if_false] at hu
      generalize hvv : [v] = vv at hu
      cases hu with
      | cl b1 b2 =>
        simp only [List.cons.injEq, and_true] at hvv
        subst hvv
        exact ⟨_, rfl, (capAs_ok _ _ _ hl b2).1⟩
    · cases h
  · cases h

theorem RepAs.append {ok : Nat → Prop} {H : Heap} : ∀ {l l' : List AV} {vs vs' : List Value}, RepAs W ok hdr H l vs → RepAs W ok hdr H l' vs' → RepAs W ok hdr H (l ++ l') (vs ++ vs')
  | [], l', [], vs', _, h => by simpa using h
  | [], _, _ :: _, _, h, _ => by simp [RepAs] at h
  | _ :: _, _, [], _, h, _ => by simp [RepAs] at h
  | x :: l, l', v :: vs, vs', h, h' => by
    simp only [RepAs, List.cons_append] at *
    exact ⟨h.1, RepAs.append h.2 h'⟩

theorem flat_w {ok ok' : Nat → Prop} {W W' : World} {u v : Value} (h : RepV W ok (.w u) v) : RepV W' ok' (.w u) v := by
  obtain ⟨h1, h2⟩ := h.wInv
  rw [h1]; exact RepV.w h2

theorem flat_st {ok ok' : Nat → Prop} {W W' : World} {cs : List PV} {v : Value} (hf : (cs.all fun p => match p with | .w _ => true | _ => false) = true) (h : RepV W ok (.st cs) v) : RepV W' ok' (.st cs) v := by
  obtain ⟨vs, rfl, h1, h2⟩ := h.stInv
  refine RepV.st ?_ h2
  rw [List.all_eq_true] at hf
  have hlen := h1.length
  refine RepL.ofGet (by simpa using hlen) fun i p hp => ?_
  have hq := hf p (List.mem_of_getElem? hp)
  have := (h1.get hp).1
  cases p with
  | w u =>
    cases hx : (vs.drop (i * 1)).take 1 with
    | nil => rw [hx] at this; cases this
    | cons y ys =>
      rw [hx] at this
      cases this with
      | w hs => exact .w hs
  | sl _ _ => simp at hq
  | st _ => simp at hq
  | pt _ => simp at hq
  | cl _ _ => simp at hq
  | nl => simp at hq
  | ifc _ _ => simp at hq

mutual
theorem flat_ok {ok ok' : Nat → Prop} {hdr' : Nat → Value} {H H' : Heap} {W W' : World} : ∀ (x : AV) (v : Value), flatA x = true → RepA W ok hdr H x v → RepA W' ok' hdr' H' x v
  | .u, v, _, _ => by simp [RepA]
  | .v (.w u), v, _, h => by simp only [RepA] at *; exact flat_w h
  | .v (.sl _ _), v, hf, _ => by simp [flatA] at hf
  | .v (.pt _), v, hf, _ => by simp [flatA] at hf
  | .v (.cl _ _), v, hf, _ => by simp [flatA] at hf
  | .v .nl, v, hf, _ => by simp [flatA] at hf
  | .v (.ifc _ _), v, hf, _ => by simp [flatA] at hf
  | .v (.st cs), v, hf, h => by simp only [flatA] at hf; simp only [RepA] at *; exact flat_st hf h
  | .h _, v, hf, _ => by simp [flatA] at hf
  | .ptr _ _ _, v, hf, _ => by simp [flatA] at hf
  | .sub _ _ _, v, hf, _ => by simp [flatA] at hf
  | .ub, v, hf, _ => by simp [flatA] at hf
  | .rp _, v, hf, _ => by simp [flatA] at hf
  | .fn f l, v, hf, h => by
    simp only [flatA] at hf
    simp only [RepA] at *
    obtain ⟨vs, h1, h2⟩ := h
    exact ⟨vs, h1, flats_ok l vs hf h2⟩
  | .tup l, v, hf, h => by
    simp only [flatA] at hf
    simp only [RepA] at *
    obtain ⟨vs, h1, h2⟩ := h
    exact ⟨vs, h1, flats_ok l vs hf h2⟩
theorem flats_ok {ok ok' : Nat → Prop} {hdr' : Nat → Value} {H H' : Heap} {W W' : World} : ∀ (l : List AV) (vs : List Value), flatAs l = true → RepAs W ok hdr H l vs → RepAs W' ok' hdr' H' l vs
  | [], [], _, _ => by simp [RepAs]
  | [], _ :: _, _, h => by simp [RepAs] at h
  | _ :: _, [], _, h => by simp [RepAs] at h
  | x :: l, v :: vs, hf, h => by
    simp only [flatAs, Bool.and_eq_true] at hf
    simp only [RepAs] at *
    exact ⟨flat_ok x v hf.1 h.1, flats_ok l vs hf.2 h.2⟩
end

mutual
theorem flat_men : ∀ (x : AV) (i : Nat), flatA x = true → ¬ x.men i
  | .u, i, _ => by simp [AV.men]
  | .v _, i, _ => by simp [AV.men]
  | .rp _, i, _ => by simp [AV.men]
  | .h _, i, hf => by simp [flatA] at hf
  | .ptr _ _ _, i, hf => by simp [flatA] at hf
  | .sub _ _ _, i, hf => by simp [flatA] at hf
  | .ub, i, hf => by simp [flatA] at hf
  | .fn f l, i, hf => by simp only [flatA] at hf; simp only [AV.men]; exact flats_men l i hf
  | .tup l, i, hf => by simp only [flatA] at hf; simp only [AV.men]; exact flats_men l i hf
theorem flats_men : ∀ (l : List AV) (i : Nat), flatAs l = true → ¬ AV.mens l i
  | [], i, _ => by simp [AV.mens]
  | x :: l, i, hf => by
    simp only [flatAs, Bool.and_eq_true] at hf
    simp only [AV.mens, not_or]
    exact ⟨flat_men x i hf.1, flats_men l i hf.2⟩
end

theorem capAs_men : ∀ (ps : List PV) (l : List AV), capAs ps = some l → ∀ i, ¬ AV.mens l i
  | [], l, h, i => by simp only [capAs, Option.some.injEq] at h; subst h; simp [AV.mens]
  | p :: ps, l, h, i => by
    cases p with
    | pt cs =>
      simp only [capAs] at h
      split at h
      · rename_i l' hl; cases h; simp only [AV.mens, AV.men, false_or]; exact capAs_men ps l' hl i
      · cases h
    | _ => simp [capAs] at h

theorem fnOf_men {u : AV} {fid : FuncId} {caps : List AV} (h : fnOf u = some (fid, caps)) (i : Nat) (hi : AV.mens caps i) : u.men i := by
  unfold fnOf at h
  split at h
  · cases h; simpa [AV.men] using hi
  · split at h
    · cases h; simp [AV.mens] at hi
    · cases h
  · split at h
    · rename_i l hl; cases h; exact (capAs_men _ _ hl i hi).elim
    · cases h
  · cases h

mutual
theorem frz_id {ids : List Nat} {H : Heap} : ∀ (x y : AV), passA false H ids x = some y → frz ids H x = H
  | .h id, y, h => by
    simp only [passA] at h
    simp only [frz]
    split at h
    · rfl
    · split at h
      · rename_i e he
        split at h
        · cases h
        split at h
        · rename_i hf
          simp at hf
          simp [hf]
        · cases h
      · cases h
  | .fn f l, y, h => by
    simp only [passA] at h
    simp only [frz]
    split at h
    · rename_i l' hl; exact frzs_id l l' hl
    · cases h
  | .u, y, h => by simp [frz]
  | .v _, y, h => by simp [frz]
  | .ptr id i o, y, h => by
    simp only [passA] at h
    simp only [frz]
    split at h
    · rfl
    · split at h
      · rename_i e he
        split at h
        · cases h
        split at h
        · rename_i hf
          simp at hf
          simp [hf]
        · cases h
      · cases h
  | .sub _ _ _, y, h => by simp [frz]
  | .ub, y, h => by simp [frz]
  | .rp _, y, h => by simp [frz]
  | .tup _, y, h => by simp [frz]
theorem frzs_id {ids : List Nat} {H : Heap} : ∀ (l l' : List AV), passAs false H ids l = some l' → frzs ids H l = H
  | [], l', h => by simp [frzs]
  | x :: l, l', h => by
    simp only [passAs] at h
    split at h
    · rename_i y ys h1 h2
      simp only [frzs]
      rw [frz_id x y h1]; exact frzs_id l ys h2
    · cases h
end

theorem passH_keys (H : Heap) : ∀ (ids : List Nat) (k0 : Nat), ∀ p ∈ passH H k0 ids, p.1 < k0 + ids.length
  | [], k0 => by simp [passH]
  | id :: l, k0 => by
    intro p hp
    simp only [passH] at hp
    have ih := passH_keys H l (k0 + 1)
    split at hp
    · rcases List.mem_cons.1 hp with rfl | hp
      · simp
      · have := ih p hp; simp; omega
    · have := ih p hp; simp; omega

theorem passH_mem (H : Heap) : ∀ (ids : List Nat) (k0 : Nat), ∀ p ∈ passH H k0 ids, ∃ id ∈ ids, find H id = some p.2
  | [], k0 => by simp [passH]
  | id :: l, k0 => by
    intro p hp
    simp only [passH] at hp
    have ih := passH_mem H l (k0 + 1)
    split at hp
    · rename_i e he
      rcases List.mem_cons.1 hp with rfl | hp
      · exact ⟨id, by simp, he⟩
      · obtain ⟨i, h1, h2⟩ := ih p hp; exact ⟨i, by simp [h1], h2⟩
    · obtain ⟨i, h1, h2⟩ := ih p hp; exact ⟨i, by simp [h1], h2⟩

mutual
theorem frz_sol (ids : List Nat) : ∀ (x : AV) (H : Heap) (id : Nat) (e : Ent), find H id = some e → e.sol → ∃ e', find (frz ids H x) id = some e' ∧ e'.sol
  | .h i, H, id, e, he, hs => by
    simp only [frz]
    split
    · exact ⟨e, he, hs⟩
    · split
      · rename_i e0 h0
        split
        · exact ⟨e, he, hs⟩
        · rename_i hz
          rw [find_setIn]
          by_cases hi : id = i
          · subst hi; rw [if_pos rfl, h0]; exact ⟨_, rfl, .inl fun h => hz (.inr h)⟩
          · rw [if_neg hi]; exact ⟨e, he, hs⟩
      · exact ⟨e, he, hs⟩
  | .ptr i _ _, H, id, e, he, hs => by
    simp only [frz]
    split
    · exact ⟨e, he, hs⟩
    · split
      · rename_i e0 h0
        split
        · exact ⟨e, he, hs⟩
        · rename_i hz
          rw [find_setIn]
          by_cases hi : id = i
          · subst hi; rw [if_pos rfl, h0]; exact ⟨_, rfl, .inl fun h => hz (.inr h)⟩
          · rw [if_neg hi]; exact ⟨e, he, hs⟩
      · exact ⟨e, he, hs⟩
  | .fn f l, H, id, e, he, hs => by simp only [frz]; exact frzs_sol ids l H id e he hs
  | .u, H, id, e, he, hs => ⟨e, he, hs⟩
  | .v _, H, id, e, he, hs => ⟨e, he, hs⟩
  | .sub _ _ _, H, id, e, he, hs => ⟨e, he, hs⟩
  | .ub, H, id, e, he, hs => ⟨e, he, hs⟩
  | .rp _, H, id, e, he, hs => ⟨e, he, hs⟩
  | .tup _, H, id, e, he, hs => ⟨e, he, hs⟩
theorem frzs_sol (ids : List Nat) : ∀ (l : List AV) (H : Heap) (id : Nat) (e : Ent), find H id = some e → e.sol → ∃ e', find (frzs ids H l) id = some e' ∧ e'.sol
  | [], H, id, e, he, hs => ⟨e, he, hs⟩
  | x :: l, H, id, e, he, hs => by
    simp only [frzs]
    obtain ⟨e1, h1, h2⟩ := frz_sol ids x H id e he hs
    exact frzs_sol ids l _ id e1 h1 h2
end
theorem pas_sol {e : Ent} {H : Heap} (h : e.sol) : e.pas ∧ ∀ c, e.ref = some c → (find H c).isSome = true := ⟨.inl h, fun c hc => (Ent.sol_refs h (.inl hc)).elim⟩
theorem callQ_ok {d : Nat} {f : Opd} {args : List Opd} {x : AV} {N : Heap} (hF : ∀ k e, find s.heap k = some e → F k) (hfr : ∀ j, j < 8 → ¬ F (s.nx + d + 1024 * j)) (h : CallQ P s d f args x N) : CallOk P s d f args ⟨(d, x) :: s.env, N ++ s.heap, s.nx⟩ := by
  cases h with
  | lent h1 h2 h3 h4 h5 h6 => exact CallOk.lent h1 h2 h3 h4 h5 h6
  | plain h1 h2 h3 h4 h5 h6 h7 =>
    rename_i u fid caps as ys res Hout
    have e := frzs_id _ _ h4
    refine CallOk.rows (ids := []) h1 h2 h3 (by rw [e]; exact h4) List.nodup_nil (by simp) (by rw [e]; exact h5) (fun p hp => ⟨by simpa using (h6 p hp).1, pas_sol (h6 p hp).2⟩) (by simpa using h7) (fun k => ?_)
    rw [e, outN, renH_sol fun p hp => (h6 p hp).2]; simp [outH, strikes]
  | same h1 h2 h3 h4 h5 h6 h7 h8 h9 =>
    rename_i u fid caps as ys ids res
    have e := frzs_id _ _ h4
    have hsol : ∀ p ∈ passH s.heap 0 ids, p.2.sol := fun p hp => by
      obtain ⟨i, g1, g2⟩ := passH_mem s.heap ids 0 p hp
      obtain ⟨e0, g3, g4⟩ := h6 i g1
      rw [g2] at g3; cases g3
      exact g4
    refine CallOk.rows (ids := ids) h1 h2 h3 (by rw [e]; exact h4) h5 (fun id hid => ?_) (by rw [e, passN, renH_sol hsol]; exact h7) (fun p hp => ?_) (fun k hk => Nat.lt_of_lt_of_le (h8 k hk) (by omega)) (fun k => ?_)
    · rw [e]
      obtain ⟨e0, g3, g4⟩ := h6 id hid
      exact ⟨e0, g3, (pas_sol (H := []) g4).1, fun c hc => (Ent.sol_refs g4 (.inl hc)).elim⟩
    · have := passH_keys s.heap ids 0 p hp
      exact ⟨by omega, pas_sol (hsol p hp)⟩
    · rw [e, outN, renH_sol hsol]
      have hFi : ∀ id ∈ ids, F id := fun id hi => by
        obtain ⟨e, he, _⟩ := h6 id hi
        exact hF id e he
      have hinj := bk_inj (base := s.nx + d) h5 hFi hfr
      obtain ⟨hm1, hm2⟩ := find_map (m := ids.length + 8) (fun p hp => by have := passH_keys s.heap ids 0 p hp; omega) hinj
      simp only [List.nil_append, outH, find_append, find_strikes]
      by_cases hk : k ∈ ids
      · obtain ⟨j, hj⟩ := List.mem_iff_getElem?.1 hk
        have hjl := (List.getElem?_eq_some_iff.1 hj).1
        have hb : bk ids (s.nx + d) j = k := by unfold bk; rw [hj]
        have := hm1 j (by omega)
        rw [hb] at this
        rw [this, find_passH, if_pos (Nat.zero_le _), Nat.sub_zero, hj]
        obtain ⟨e', he', _⟩ := h6 k hk
        simp [he']
      · cases hx : find ((passH s.heap 0 ids).map fun p => (bk ids (s.nx + d) p.1, p.2)) k with
        | none => simp [hk]
        | some e' =>
          exfalso
          obtain ⟨j, g1, g2, g3⟩ := hm2 k e' hx
          obtain ⟨id, q1, q2⟩ := find_in g3
          have hb : bk ids (s.nx + d) j = id := by unfold bk; rw [q1]
          rw [hb] at g2; subst g2
          exact hk (List.mem_of_getElem? q1)

/-- A call goes through, however its function and its arguments come. -/
theorem snd_callG (r : RelAt C n F s a W hdr ow) {d : Nat} {f : Opd} {xs : List Opd} {fv : Value} {avals : List Value} (hc : CallOk P s d f xs s')
    (hU : ∀ H1 ow1, RelAt C n F { s with heap := H1 } a W hdr ow1 → ∀ u, ev s.env f = some u → RepA W (OK C W H1 ow1) hdr H1 u fv)
    (hA : ∀ H1 ow1, RelAt C n F { s with heap := H1 } a W hdr ow1 → ∀ avs, evs s.env xs = some avs → RepAs W (OK C W H1 ow1) hdr H1 avs avals)
    (hexec : ∀ (fid : FuncId) (cs : List Value), fv = .func (.func fid) #[] cs.toArray → (∀ (as : Array Value) (W : World), (callFunc fid as).run P W = .ok (.enter fid as) W) → (execOp a.eval o).run P W = .ok (.enter fid (avals ++ cs).toArray) W)
    (hd : d < n) (hfr : ∀ j, j < 8 → ¬ F (s.nx + d + 1024 * j)) :
    ∃ fid vals, (execOp a.eval o).run P W = .ok (.enter fid vals) W ∧ Calls P fid vals W fun e W' => ∃ v hdr' ow', e = .returned v ∧ RelAt C n (fun i => F i ∨ ∃ j, j < 8 ∧ i = s.nx + d + 1024 * j) s' (a.put (some d) v) W' hdr' ow' := by
  cases hc with
  | rows hu hfn has hpass hn hfound hF hkeys hmen hHn =>
    rename_i u fid caps avs ys ids res Hout Hn
    obtain ⟨ow1, r1, hfz⟩ := frzs_ok ids (avs ++ caps) s ow r
    have hfv := hU _ _ r1 _ hu
    obtain ⟨cs, hcs, hcr⟩ := fnOf_ok hfn hfv
    have ha1 := hA _ _ r1 _ has
    have hall := ha1.append hcr
    have hfound' : ∀ id ∈ ids, (find (frzs ids s.heap (avs ++ caps)) id).isSome = true := fun id hi => by
      obtain ⟨e, he, _⟩ := hfound id hi
      exact Option.isSome_iff_exists.2 ⟨e, he⟩
    have hsz' : ∀ id ∈ ids, ∀ e, find (frzs ids s.heap (avs ++ caps)) id = some e → e.pas ∧ ∀ c, e.ref = some c → c ∈ ids := fun id hi e' he' => by
      obtain ⟨e, he, hz⟩ := hfound id hi
      rw [he] at he'; cases he'
      exact hz
    have hargs := passAs_ok (b := false) (ids := ids) (okC := OK (Cx.of W (OK C W (frzs ids s.heap (avs ++ caps)) ow1) (Own (passH (frzs ids s.heap (avs ++ caps)) 0 ids) (owI ow1 ids))) W (passH (frzs ids s.heap (avs ++ caps)) 0 ids) (owI ow1 ids)) r1
      (by
        intro j hj
        refine ⟨⟨.inl hj, hj.1.2⟩, ?_⟩
        rintro ⟨k, e, hk, hko⟩
        obtain ⟨id, g1, g2⟩ := find_in hk
        simp only [owI, g1] at hko
        exact hj.2 ⟨id, e, g2, hko⟩)
      (by intro h; cases h) _ _ _ hpass hall
    have hmem := mem_in r1 hn (OK C W (frzs ids s.heap (avs ++ caps)) ow1) (fun j hj => hj) hsz'
    have hargs := hargs.renH (g := gi ids)
    have hownN : Own (passN (frzs ids s.heap (avs ++ caps)) ids) (owI ow1 ids) = Own (passH (frzs ids s.heap (avs ++ caps)) 0 ids) (owI ow1 ids) := own_renH _ _ _
    rw [← hownN] at hmem hargs
    rw [← OK_renH] at hargs
    refine ⟨fid, _, hexec fid cs hcs hF.1, (hF.2 W _ _ _ _ hmem hargs).mono ?_⟩
    rintro e W' ⟨v, hdr', ow', rfl, q1, q2, q3⟩
    rw [hownN] at q1 q2
    have q2 := q2.renH (g := bk ids (s.nx + d))
    rw [← OK_renH (g := bk ids (s.nx + d))] at q2
    obtain ⟨m1, m2, m3⟩ := merge (base := s.nx + d) (Hn := Hn) r1 hn hfound' hfr q1 rfl (fun p hp => (hkeys p hp).1) (fun p hp => (hkeys p hp).2) (fun k e e' h1 h2 => by
      obtain ⟨e0, h3, rfl⟩ := find_ren h2
      obtain ⟨g1, g2⟩ := q3 k (renE (gi ids) e) e0 (by rw [passN, find_renH, h1]; rfl) h3
      rw [renE_sz] at g2 ⊢
      exact ⟨g1, g2⟩) hHn
    have hF' : ∀ id ∈ ids, F id := fun id hi => by
      obtain ⟨e, he, _⟩ := hfound id hi
      exact r1.idsH id e he
    have hinj := bk_inj (base := s.nx + d) hn hF' hfr
    have hb := back_ok (hdrN := joinF ids (s.nx + d) (renH (bk ids (s.nx + d)) Hout) hdr' hdr) m2 (fun k e hk he => ⟨m3 k e hk he, joinF_src hinj hk (m3 k e hk he)⟩) res v hmen q2
    refine ⟨v, _, _, rfl, m1.put hd hb ?_⟩
    intro i hi
    obtain ⟨k, g1, g2⟩ := men_back res i hi
    have hk := hmen k g1
    subst g2
    unfold bk
    cases e1 : ids[k]? with
    | some y => exact .inl (hF' y (List.mem_of_getElem? e1))
    | none =>
      have hjl := List.getElem?_eq_none_iff.1 e1
      exact .inr ⟨k - ids.length, by omega, rfl⟩
  | lent hu hfn has hpass hF hflat =>
    rename_i u fid caps avs ys res
    have hfv := hU _ _ r _ hu
    obtain ⟨cs, hcs, hcr⟩ := fnOf_ok hfn hfv
    have ha1 := hA _ _ r _ has
    have hall := ha1.append hcr
    have hno : ∀ (ow2 : Nat → Option Nat) (j : Nat), ¬ Own [] ow2 j := by rintro ow2 j ⟨k, e, hk, _⟩; simp [find] at hk
    have hargs := passAs_ok (b := true) (ids := []) (okC := OK (Cx.of W (fun j => j < W.heap.size) (Own (passH s.heap 0 []) (owI ow []))) W (passH s.heap 0 []) (owI ow [])) r
      (by intro j hj; exact ⟨⟨.inl hj.1.2, hj.1.2⟩, hno _ j⟩) (by intro _ id e j _ he hj; have := (r.mem.lt id e j he hj).1; exact ⟨⟨.inl this, this⟩, hno _ j⟩) _ _ _ hpass hall
    have hmem := mem_in r List.nodup_nil (fun j => j < W.heap.size) (fun j hj => hj.1.2) (by simp)
    refine ⟨fid, _, hexec fid cs hcs hF.1, (hF.2 W _ _ _ _ hmem hargs).mono ?_⟩
    rintro e W' ⟨v, hdr', ow', rfl, q1, q2, q3⟩
    have q1' : Mem (Cx.of W (OK C W s.heap ow) (Own (passH s.heap 0 []) (owI ow []))) W' [] hdr' ow' := ⟨fun k e he => by simp [find] at he, fun k k' e e' b h => by simp [find] at h, fun k e b h => by simp [find] at h, q1.size, q1.frame, q1.os, q1.tape, q1.output⟩
    obtain ⟨m1, m2, m3⟩ := merge (base := s.nx + d) (Hn := s.heap) (ids := []) (Hout := []) r List.nodup_nil (by simp) hfr q1' rfl (by simp) (by simp) (by intro k e e' h; simp [passH, find] at h) (by intro k; simp [outH, strikes])
    exact ⟨v, _, _, rfl, m1.put hd (flat_ok _ v hflat q2) (fun i hi => (flat_men _ i hflat hi).elim)⟩

/-- A call goes through. -/
theorem snd_call (r : RelAt C n F s a W hdr ow) {d : Nat} {f : Opd} {xs : List Opd} {fo : Operand} {as : Array Operand} {ts : Array TypeId} {t : TypeId} (hc : CallOk P s d f xs s') (ho : o.op = .call { callee := .value fo, args := as, argTypes := ts })
    (hf : opd P t fo = some f) (hsz : as.size = ts.size) (hx : mapO (fun q => opd P (if ows.contains (d + 300000) = true then nilT else q.2) q.1) (as.toList.zip ts.toList) = some xs) (hd : d < n) (hfr : ∀ j, j < 8 → ¬ F (s.nx + d + 1024 * j)) :
    ∃ fid vals, (execOp a.eval o).run P W = .ok (.enter fid vals) W ∧ Calls P fid vals W fun e W' => ∃ v hdr' ow', e = .returned v ∧ RelAt C n (fun i => F i ∨ ∃ j, j < 8 ∧ i = s.nx + d + 1024 * j) s' (a.put (some d) v) W' hdr' ow' := by
  have hzip : (as.toList.zip ts.toList).map (fun q => a.eval q.1) = as.toList.map a.eval := by
    have h1 : (as.toList.zip ts.toList).map (fun q => a.eval q.1) = ((as.toList.zip ts.toList).map Prod.fst).map a.eval := by rw [List.map_map]; rfl
    rw [h1, List.map_fst_zip (by rw [Array.length_toList, Array.length_toList]; omega)]
  have hexec : ∀ (fid : FuncId) (cs : List Value), a.eval fo = .func (.func fid) #[] cs.toArray → (∀ (as : Array Value) (W : World), (callFunc fid as).run P W = .ok (.enter fid as) W) →
      (execOp a.eval o).run P W = .ok (.enter fid (as.toList.map a.eval ++ cs).toArray) W := by
    intro fid cs h1 h2
    simp [execOp, ho, resolve, invoke, Deferred.ofValue, h1, h2]
  exact snd_callG r hc (fun H1 ow1 r1 u hu => (opd_ok r1 hf hu).1) (fun H1 ow1 r1 avs has => by
    have := (evs_ok' (tf := fun q => if ows.contains (d + 300000) = true then nilT else q.2) r1 hx has).1
    rwa [hzip] at this) hexec hd hfr

theorem mrow_ok {name : String} {t u f : Nat} (h : mrow P name t = some (u, f)) : u = t ∧ ∃ i d m, P.info? t = some i ∧ P.underlying t = some d ∧ i.methods.find? (·.name == name) = some m ∧ m.func = some (f, false) ∧ m.path.isEmpty = true ∧ notPtr d = true := by
  unfold mrow at h
  split at h
  · rename_i i d hi hd
    split at h
    · rename_i m hm
      split at h
      · rename_i f' hf
        split at h
        · rename_i hh
          simp only [Option.some.injEq, Prod.mk.injEq] at h
          obtain ⟨rfl, rfl⟩ := h
          exact ⟨rfl, i, d, m, hi, hd, hm, hf, hh.1, hh.2⟩
        · cases h
      · cases h
    · cases h
  · cases h
theorem mtab_ok {name : String} {t f : Nat} (h : find (mtab P name) t = some f) : mrow P name t = some (t, f) := by
  have := find_mem h
  unfold mtab at this
  rw [List.mem_filterMap] at this
  obtain ⟨t', _, h1⟩ := this
  have := (mrow_ok h1).1
  subst this
  exact h1
/-- A method called through an interface value. -/
theorem snd_inv (r : RelAt C n F s a W hdr ow) {d rr : Nat} {name : String} {xs : List Opd} {as : Array Operand} {ts : Array TypeId} (hc : CallOk P s d (.im rr (mtab P name)) (.pl rr :: xs) s') (ho : o.op = .call { callee := .invoke (.tmp rr) name, args := as, argTypes := ts })
    (hsz : as.size = ts.size) (hx : mapO (fun q => opd P (if ows.contains (d + 300000) = true then nilT else q.2) q.1) (as.toList.zip ts.toList) = some xs) (hd : d < n) (hfr : ∀ j, j < 8 → ¬ F (s.nx + d + 1024 * j)) :
    ∃ fid vals, (execOp a.eval o).run P W = .ok (.enter fid vals) W ∧ Calls P fid vals W fun e W' => ∃ v hdr' ow', e = .returned v ∧ RelAt C n (fun i => F i ∨ ∃ j, j < 8 ∧ i = s.nx + d + 1024 * j) s' (a.put (some d) v) W' hdr' ow' := by
  have hzip : (as.toList.zip ts.toList).map (fun q => a.eval q.1) = as.toList.map a.eval := by
    have h1 : (as.toList.zip ts.toList).map (fun q => a.eval q.1) = ((as.toList.zip ts.toList).map Prod.fst).map a.eval := by rw [List.map_map]; rfl
    rw [h1, List.map_fst_zip (by rw [Array.length_toList, Array.length_toList]; omega)]
  obtain ⟨u, hu⟩ : ∃ u, ev s.env (.im rr (mtab P name)) = some u := by
    cases hc with
    | rows hu => exact ⟨_, hu⟩
    | lent hu => exact ⟨_, hu⟩
  have hu0 := hu
  simp only [ev] at hu
  split at hu
  · rename_i t p hf
    obtain ⟨fid, hft, rfl⟩ := Option.map_eq_some_iff.1 hu
    obtain ⟨_, i, dd, m, g1, g2, g3, g4, g5, g6⟩ := mrow_ok (mtab_ok hft)
    have hv := r.env rr _ hf
    simp only [RepA] at hv
    obtain ⟨y, hy, _⟩ := hv.ifcInv
    refine snd_callG r (fv := .func (.func fid) #[] #[]) (avals := y :: as.toList.map a.eval) hc ?_ ?_ ?_ hd hfr
    · intro H1 ow1 r1 u' hu'
      rw [hu0] at hu'
      cases hu'
      simp only [RepA]; exact ⟨[], rfl, by simp [RepAs]⟩
    · intro H1 ow1 r1 avs has
      simp only [evs, ev, hf] at has
      split at has
      · rename_i z zs hz hzs
        cases hz
        cases has
        simp only [RepAs]
        refine ⟨?_, ?_⟩
        · have hv1 := r1.env rr _ hf
          simp only [RepA] at hv1
          obtain ⟨y', hy', hp⟩ := hv1.ifcInv
          rw [hy] at hy'
          cases hy'
          simp only [RepA]; exact hp
        · have := (evs_ok' (tf := fun q => if ows.contains (d + 300000) = true then nilT else q.2) r1 hx hzs).1
          rwa [hzip] at this
      · cases has
    · intro fid' cs h1 h2
      simp only [Value.func.injEq, Fn.func.injEq, true_and] at h1
      obtain ⟨rfl, h1⟩ := h1
      have hcs : cs = [] := by
        have := congrArg Array.toList h1
        simpa using this.symm
      subst hcs
      have hpath : m.path.toList = [] := by
        have := Array.isEmpty_iff.1 g5
        rw [this]
      have hev : a.eval (.tmp rr) = .iface t y := hy
      have hmeth : ∀ k, (method (k + 1) t y name).run P W = .ok (fid, y) W := by
        intro k
        unfold method
        cases dd <;> first | (simp [notPtr] at g6; done) | simp [typeInfo, g1, g3, g4, hpath, follow, receiverAt, run_underlying g2, Place.get]
      have hmd : 0 < Made.depth := by decide
      obtain ⟨k, hk⟩ : ∃ k, P.types.size + Made.depth = k + 1 := ⟨P.types.size + Made.depth - 1, by omega⟩
      have e0 : (#[Value.iface t y] ++ Array.map a.eval as)[0]? = some (Value.iface t y) := by
        rw [Array.getElem?_append_left (by simp)]; rfl
      have e1 : (#[Value.iface t y] ++ Array.map a.eval as).extract 1 (#[Value.iface t y] ++ Array.map a.eval as).size = Array.map a.eval as := by
        apply Array.ext'
        simp
        exact List.take_of_length_le (by simp)
      have e2 : (y :: as.toList.map a.eval ++ []).toArray = #[y] ++ Array.map a.eval as := by
        apply Array.ext'
        simp
      rw [e2]
      simp only [execOp, ho, resolve, invoke, Sem.run_bind, Sem.run_pure, Result.andThen_ok, hev, e0, e1, callMethod]
      simp [hk, hmeth, h2]
  · cases hu

end
end Go.AM
/- A region, operation by operation. -/
set_option linter.all false
namespace Go.AM
open Go
variable [dr : Inhabited Prop]

section
variable {P : Program} {C : Cx} {n : Nat} {F : Nat → Prop} {s s' : St} {a : Act} {W : World} {hdr : Nat → Value} {ow : Nat → Option Nat} {id : Nat} {o : Oper} {ows : List Nat} {ops : Array Oper}
  {Q : Exit → Act → World → Prop} {K : Act → World → Prop} {q : Bool} {mo : MO}

/-- The numbers given by an operation. -/
def news (mo : MO) (nx : Nat) (i : Nat) : Prop := ∃ d, mo.dst = some d ∧ ∃ j, j < 8 ∧ i = nx + d + 1024 * j

theorem wp_value {v : Value} {W' : World} {next : Act → World → Prop} (h : (execOp a.eval o).run P W = .ok (.value v) W') (hn : next (a.put o.dst v) W') : o.wp P a W next Q := by
  unfold Oper.wp; rw [h]; exact hn

theorem wp_skipV {W' : World} {next : Act → World → Prop} (h : (execOp a.eval o).run P W = .ok .skip W') (hn : next (a.put o.dst undef) W') : o.wp P a W next Q := by
  unfold Oper.wp; rw [h]; exact hn

theorem wp_snd {x : AV} {H' : Heap} {next : Act → World → Prop} (h : Snd P C n F s a W id o x H') (hn : ∀ v W' hdr' ow', RelAt C n (fun i => F i ∨ i = id) { s with heap := H' } a W' hdr' ow' → RepA W' (OK C W' H' ow') hdr' H' x v →
    (∀ i, x.men i → F i ∨ i = id) → next (a.put o.dst v) W') : o.wp P a W next Q := by
  obtain ⟨v, W', hdr', ow', h1, h2, h3, h4⟩ := h
  rcases h1 with h1 | ⟨h1, rfl⟩
  · exact wp_value h1 (hn v W' hdr' ow' h2 h3 h4)
  · exact wp_skipV h1 (hn undef W' hdr' ow' h2 h3 h4)

theorem RelAt.setU (r : RelAt C n F s a W hdr ow) (d : Nat) : RelAt C n F { s with env := (d, .u) :: s.env } a W hdr ow where
  mem := r.mem
  defers := r.defers
  tsz := r.tsz
  env t x h := by
    simp only [find] at h
    split at h
    · cases h; simp [RepA]
    · exact r.env t x h
  idsE t x h := by
    simp only [find] at h
    split at h
    · cases h; simp [AV.men]
    · exact r.idsE t x h
  idsH := r.idsH
  idsG := r.idsG
  gh := r.gh
  idsR := r.idsR

theorem step_ok (hs : AStep P q s mo s') {i : Nat} (hi : ops[i]? = some o) (hc : cO P ows n ops o = some mo) (r : RelAt C n F s a W hdr ow) (hfr : ∀ k, news mo s.nx k → ¬ F k)
    (hK : ∀ a' W' hdr' ow', RelAt C n (fun k => F k ∨ news mo s.nx k) s' a' W' hdr' ow' → K a' W') : wpOp P ops Q i K a W := by
  unfold wpOp
  rw [hi]
  simp only
  unfold cO at hc
  split at hc
  · cases hc
  rename_i g hg
  have hskip : guardOf s.env g = some false → ∀ d, d < n → o.dst = some d → mo.dst = some d → s' = ⟨(d, .tup []) :: s.env, s.heap, s.nx⟩ →
      if Region.wanted o (yielded ops a.tmps) = true then o.wp P a W K Q ∨ (o.asks P a W ∧ LetsOut Q) else K (a.put o.dst undef) W := by
    intro hgv d hd hdst _ hs'
    rw [guard_ok r hg hgv]
    simp only [Bool.false_eq_true, if_false]
    subst hs'
    rw [hdst]
    exact hK _ _ hdr ow ((r.put hd (x := .tup []) (v := undef) (by simp only [RepA]; exact ⟨[], rfl, by simp [RepAs]⟩) (by simp [AV.men, AV.mens])).monoF fun i h => .inl h)
  have hcallK : guardOf s.env g = some true → ∀ (d : Nat) (f' : Opd) (xs : List Opd) (f : Operand) (as : Array Operand) (ts : Array TypeId), o.op = .call { callee := .value f, args := as, argTypes := ts } → o.dst = some d → d < n → as.size = ts.size →
      opd P 0 f = some f' → mapO (fun q => opd P (if ows.contains (d + 300000) = true then nilT else q.2) q.1) (as.toList.zip ts.toList) = some xs → mo.dst = some d → CallOk P s d f' xs s' →
      if Region.wanted o (yielded ops a.tmps) = true then o.wp P a W K Q ∨ (o.asks P a W ∧ LetsOut Q) else K (a.put o.dst undef) W := by
    intro hgv d f' xs f as ts ho hdst h1 h3 hf hx hmd hcall
    rw [guard_ok r hg hgv]
    simp only [if_true]
    left
    obtain ⟨fid, vals, q1, q2⟩ := snd_call r hcall ho hf h3 hx h1 (fun j hj => hfr _ ⟨d, hmd, j, hj, rfl⟩)
    unfold Oper.wp
    rw [q1, Oper.upon_enter]
    refine q2.mono ?_
    rintro e W' ⟨v, hdr', ow', rfl, hr⟩
    simp only
    rw [hdst]
    exact hK _ _ hdr' ow' (hr.monoF fun k hk => hk.imp (fun h => h) fun ⟨j, hj, e⟩ => ⟨d, hmd, j, hj, e⟩)
  split at hc
  · rename_i f as ts d ho hdst
    split at hc
    · rename_i hlt
      obtain ⟨h1, h2, h3⟩ := hlt
      split at hc
      · rename_i f' xs hf hx
        cases hc
        cases hs with
        | skipC hgv => exact hskip hgv d h1 hdst rfl rfl
        | call hgv hcall _ => exact hcallK hgv d f' xs f as ts ho hdst h1 h3 hf hx rfl hcall
        | callQ hgv hcall => exact hcallK hgv d f' xs f as ts ho hdst h1 h3 hf hx rfl (callQ_ok r.idsH (fun j hj => hfr _ ⟨d, rfl, j, hj, rfl⟩) hcall)
      · cases hc
    · cases hc
  · rename_i rr name as ts d ho hdst
    split at hc
    · rename_i hlt
      obtain ⟨h1, h2, h3⟩ := hlt
      split at hc
      · rename_i xs hx
        cases hc
        have hgo : ∀ s', guardOf s.env g = some true → CallOk P s d (.im rr (mtab P name)) (.pl rr :: xs) s' → (∀ a' W' hdr' ow', RelAt C n (fun k => F k ∨ news (.call g d (.im rr (mtab P name)) (.pl rr :: xs)) s.nx k) s' a' W' hdr' ow' → K a' W') →
            if Region.wanted o (yielded ops a.tmps) = true then o.wp P a W K Q ∨ (o.asks P a W ∧ LetsOut Q) else K (a.put o.dst undef) W := by
          intro s' hgv hcall hK
          rw [guard_ok r hg hgv]
          simp only [if_true]
          left
          obtain ⟨fid, vals, q1, q2⟩ := snd_inv r hcall ho h3 hx h1 (fun j hj => hfr _ ⟨d, rfl, j, hj, rfl⟩)
          unfold Oper.wp
          rw [q1, Oper.upon_enter]
          refine q2.mono ?_
          rintro e W' ⟨v, hdr', ow', rfl, hr⟩
          simp only
          rw [hdst]
          exact hK _ _ hdr' ow' (hr.monoF fun k hk => hk.imp (fun h => h) fun ⟨j, hj, e⟩ => ⟨d, rfl, j, hj, e⟩)
        cases hs with
        | skipC hgv => exact hskip hgv d h1 hdst rfl rfl
        | call hgv hcall _ => exact hgo _ hgv hcall hK
        | callQ hgv hcall => exact hgo _ hgv (callQ_ok r.idsH (fun j hj => hfr _ ⟨d, rfl, j, hj, rfl⟩) hcall) hK
      · cases hc
    · cases hc
  · rename_i t x v ho hdst
    obtain ⟨m, hm1, rfl⟩ := Option.map_eq_some_iff.1 hc
    obtain ⟨hop, hlS⟩ := asSto_ok hm1
    cases hs with
    | skipS hgv =>
      rw [guard_ok r hg hgv]
      simp only [Bool.false_eq_true, if_false]
      rw [hdst]
      exact hK _ _ hdr ow (r.monoF fun k h => .inl h)
    | store hgv hl hm =>
      rename_i y H'
      rw [guard_ok r hg hgv]
      simp only [if_true]
      left
      have hop' := hop
      obtain ⟨_, W', ow', k1, k2⟩ := store_core r ho hop' hm
      refine wp_skipV k1 ?_
      rw [hdst]
      exact hK _ _ _ ow' (k2.monoF fun k h => .inl h)
  · rename_i t x k v ho hdst
    obtain ⟨m, hm1, rfl⟩ := Option.map_eq_some_iff.1 hc
    obtain ⟨hop, hlS⟩ := asSto_ok hm1
    cases hs with
    | skipS hgv =>
      rw [guard_ok r hg hgv]
      simp only [Bool.false_eq_true, if_false]
      rw [hdst]
      exact hK _ _ hdr ow (r.monoF fun k h => .inl h)
    | store hgv hl hm =>
      rename_i y H'
      rw [guard_ok r hg hgv]
      simp only [if_true]
      left
      have hop' := hop
      obtain ⟨_, W', ow', k1, k2⟩ := mup_core r ho hop' hm
      refine wp_skipV k1 ?_
      rw [hdst]
      exact hK _ _ _ ow' (k2.monoF fun k h => .inl h)
  · rename_i d hdst hno hno2
    split at hc
    · rename_i hlt
      obtain ⟨m, hm, rfl⟩ := Option.map_eq_some_iff.1 hc
      cases hs with
      | skip hgv => exact hskip hgv d hlt.1 hdst rfl rfl
      | op hgv hmv =>
        rw [guard_ok r hg hgv]
        simp only [if_true]
        left
        have hid : ¬ F (s.nx + d) := hfr _ ⟨d, rfl, 0, by omega, by omega⟩
        refine wp_snd (snd_all r hid hm hmv) ?_
        intro v W' hdr' ow' h1 h2 h3
        rw [hdst]
        refine hK _ _ hdr' ow' ((h1.put hlt.1 h2 h3).monoF fun k hk => hk.imp (fun h => h) fun h => ?_)
        subst h
        exact ⟨d, rfl, 0, by omega, by omega⟩
    · cases hc
  · rename_i hdst hno hno2
    split at hc
    · rename_i sz agg z x hm
      have hm := asClr_ok hm
      cases hc
      cases hs with
      | skip hgv => simp [guardOf] at hgv
      | op hgv hmv =>
        rw [guard_ok r hg hgv]
        simp only [if_true]
        left
        have hid : ¬ F (s.nx + 1023) := hfr _ ⟨1023, rfl, 0, by omega, by omega⟩
        refine wp_snd (snd_all r hid hm hmv) ?_
        intro v W' hdr' ow' h1 h2 h3
        rw [hdst]
        have hx : ∀ {x' : AV} {H' : Heap}, mval q s.env s.heap (s.nx + 1023) (.clr sz agg z x) = some (x', H') → x' = .u := by
          intro x' H' h
          simp only [mval] at h
          split at h
          · split at h
            · split at h
              · cases h; rfl
              · cases h
            · cases h
          · cases h
        obtain rfl := hx hmv
        refine hK _ _ hdr' ow' ((h1.setU 1023).monoF fun k hk => hk.imp (fun h => h) fun h => ?_)
        subst h
        exact ⟨1023, rfl, 0, by omega, by omega⟩
    · cases hc

end
end Go.AM
/- Quiet operations: what they come to hangs on their operands alone. -/
set_option linter.all false
namespace Go.AM
open Go
variable [dr : Inhabited Prop]

def optL : Option Opd → List Opd | none => [] | some x => [x]

def MOp.opds : MOp → List Opd
  | .mv x => [x]
  | .nilS _ => []
  | .pick c a b => [c, a, b]
  | .bin _ x y => [x, y]
  | .un _ x => [x]
  | .len _ x => [x]
  | .mm _ x y => [x, y]
  | .eqb _ x y => [x, y]
  | .six x i => [x, i]
  | .sls x lo hi => x :: (optL lo ++ optL hi)
  | .slc _ _ x lo hi => x :: (optL lo ++ optL hi)
  | .sl0 _ x => [x]
  | .slcP _ x lo hi => x :: (optL lo ++ optL hi)
  | .clr _ _ _ x => [x]
  | .ia _ x i => [x, i]
  | .iaA _ _ x i => [x, i]
  | .fa _ x => [x]
  | .fld _ _ _ x => [x]
  | .aix _ _ _ x i => [x, i]
  | .ld _ _ x => [x]
  | .stt _ _ x v => [x, v]
  | .box _ x => [x]
  | .alloc _ _ => []
  | .alcN _ => []
  | .build _ _ ps => ps.map fun p => p.2.2
  | .buildS _ _ _ _ _ ps => ps.map fun p => p.2
  | .buildV _ _ _ _ ps => ps.map fun p => p.2
  | .app _ _ x y => [x, y]
  | .appX _ _ _ _ _ x y => [x, y]
  | .cln _ _ y => [y]
  | .clnV _ _ y => [y]
  | .eqS _ _ x y => [x, y]
  | .mm3 _ x y z => [x, y, z]
  | .mkS _ _ _ _ n c => [n, c]
  | .ext x _ => [x]
  | .conv _ x => [x]
  | .cvS x => [x]
  | .chk x => [x]
  | .mkf _ caps => caps
  | .nilq _ x => [x]
  | .mki _ x => [x]
  | .asrt _ _ x => [x]
  | .mup _ _ x k v => [x, k, v]
  | .mkM => []
  | .mlk _ _ _ _ x k => [x, k]
  | .mln x => [x]
  | .rng x => [x]
  | .ent x => [x]
  | .ldR _ x => [x]

section
variable {E E' : Env} {H H2 : Heap} {id : Nat}

/-- Rows that the operands name. -/
def Named (E : Env) (xs : List Opd) (k : Nat) : Prop := ∃ y ∈ xs, ∃ u, ev E y = some u ∧ u.men k

theorem bnds_local {n : Nat} {lo hi : Option Opd} (h1 : ∀ y ∈ optL lo, ev E' y = ev E y) (h2 : ∀ y ∈ optL hi, ev E' y = ev E y) : bnds E' n lo hi = bnds E n lo hi := by
  unfold bnds
  cases lo <;> cases hi <;> simp [optL] at h1 h2 <;> simp [*]

theorem nlen_local {u : AV} (h : ∀ k, u.men k → find H2 k = find H k) : nlen H2 u = nlen H u := by
  cases u with
  | h k => simp only [nlen, h k (by simp [AV.men])]
  | _ => rfl
theorem rdRow_local {u : AV} (h : ∀ k, u.men k → find H2 k = find H k) : rdRow H2 u = rdRow H u := by
  cases u with
  | h k => simp only [rdRow, h k (by simp [AV.men])]
  | v p => cases p <;> rfl
  | _ => rfl

theorem tov_local {u : AV} {p : PV} {H' : Heap} (h : ∀ k, u.men k → find H2 k = find H k) (ht : tov true H u = some (p, H')) : H' = H ∧ tov true H2 u = some (p, H2) := by
  cases u with
  | h k =>
    simp only [tov] at ht ⊢
    rw [h k (by simp [AV.men])]
    split at ht
    · split at ht
      · cases ht
      rename_i hz
      rw [if_neg hz]
      split at ht
      · simp only [Option.some.injEq, Prod.mk.injEq] at ht
        obtain ⟨rfl, rfl⟩ := ht
        rename_i hf
        simp [hf]
      · simp at ht
    · cases ht
  | v q =>
    simp only [tov, Option.some.injEq, Prod.mk.injEq] at ht ⊢
    exact ⟨ht.2.symm, ht.1, trivial⟩
  | fn f caps =>
    cases caps with
    | nil =>
      simp only [tov, Option.some.injEq, Prod.mk.injEq] at ht ⊢
      exact ⟨ht.2.symm, ht.1, trivial⟩
    | cons c cs => simp [tov] at ht
  | _ => simp [tov] at ht

theorem buildP_local : ∀ (ps : List (Nat × Nat × Opd)) (cs cs' : List PV) (H' : Heap), (∀ y ∈ ps.map (fun p => p.2.2), ev E' y = ev E y) → (∀ k, Named E (ps.map fun p => p.2.2) k → find H2 k = find H k) →
    buildP true E cs H ps = some (cs', H') → H' = H ∧ buildP true E' cs H2 ps = some (cs', H2)
  | [], cs, cs', H', _, _, h => by simp [buildP] at h ⊢; exact ⟨h.2.symm, h.1⟩
  | (off, sz, x) :: ps, cs, cs', H', hE, hH, h => by
    simp only [buildP] at h ⊢
    rw [hE x (by simp)]
    cases hx : ev E x with
    | none => rw [hx] at h; simp at h
    | some u =>
      rw [hx] at h
      simp only [Option.bind_some] at h ⊢
      cases ht : tov true H u with
      | none => rw [ht] at h; simp at h
      | some r =>
        obtain ⟨p, H1⟩ := r
        obtain ⟨e1, h2⟩ := tov_local (H2 := H2) (fun k hk => hH k ⟨x, by simp, u, hx, hk⟩) ht
        rw [e1] at ht
        rw [ht] at h
        rw [h2]
        simp only at h ⊢
        split at h
        · rename_i hc
          rw [if_pos hc]
          exact buildP_local ps _ cs' H' (fun y hy => hE y (by simp [hy])) (fun k ⟨y, hy, r⟩ => hH k ⟨y, by simp at hy ⊢; exact .inr hy, r⟩) h
        · cases h

theorem buildL_local {sz : Nat} : ∀ (ps : List (Nat × Opd)) (cs cs' : List PV) (H' : Heap), (∀ y ∈ ps.map (fun p => p.2), ev E' y = ev E y) → (∀ k, Named E (ps.map fun p => p.2) k → find H2 k = find H k) →
    buildL true E sz cs H ps = some (cs', H') → H' = H ∧ buildL true E' sz cs H2 ps = some (cs', H2)
  | [], cs, cs', H', _, _, h => by simp [buildL] at h ⊢; exact ⟨h.2.symm, h.1⟩
  | (i, x) :: ps, cs, cs', H', hE, hH, h => by
    simp only [buildL] at h ⊢
    rw [hE x (by simp)]
    cases hx : ev E x with
    | none => rw [hx] at h; simp at h
    | some u =>
      rw [hx] at h
      simp only [Option.bind_some] at h ⊢
      cases ht : tov true H u with
      | none => rw [ht] at h; simp at h
      | some r =>
        obtain ⟨p, H1⟩ := r
        obtain ⟨e1, h2⟩ := tov_local (H2 := H2) (fun k hk => hH k ⟨x, by simp, u, hx, hk⟩) ht
        rw [e1] at ht
        rw [ht] at h
        rw [h2]
        simp only at h ⊢
        split at h
        · rename_i hc
          rw [if_pos hc]
          exact buildL_local ps _ cs' H' (fun y hy => hE y (by simp [hy])) (fun k ⟨y, hy, r⟩ => hH k ⟨y, by simp at hy ⊢; exact .inr hy, r⟩) h
        · cases h

theorem evs_local : ∀ {xs : List Opd} {l : List AV}, (∀ y ∈ xs, ev E' y = ev E y) → evs E xs = some l → evs E' xs = some l ∧ ∀ k, AV.mens l k → Named E xs k
  | [], l, _, h => by simp [evs] at h ⊢; subst h; simp [AV.mens]
  | x :: xs, l, hE, h => by
    simp only [evs] at h ⊢
    rw [hE x (by simp)]
    split at h
    · rename_i u us h1 h2
      cases h
      obtain ⟨g1, g2⟩ := evs_local (fun y hy => hE y (by simp [hy])) h2
      rw [h1, g1]
      refine ⟨rfl, fun k hk => ?_⟩
      simp only [AV.mens] at hk
      rcases hk with hk | hk
      · exact ⟨x, by simp, u, h1, hk⟩
      · obtain ⟨y, hy, r⟩ := g2 k hk
        exact ⟨y, by simp [hy], r⟩
    · cases h

/-- What a quiet operation comes to. -/
def QRes (E E' : Env) (H H2 : Heap) (id : Nat) (m : MOp) (x : AV) (H' : Heap) : Prop :=
  ∃ N : Heap, H' = N ++ H ∧ mval true E' H2 id m = some (x, N ++ H2) ∧ (∀ k e, find N k = some e → k = id) ∧ ∀ k, x.men k → k = id ∨ Named E m.opds k ∨ k + 1024 ≤ id

theorem QRes.none {m : MOp} {x : AV} (h : mval true E' H2 id m = some (x, H2)) (hm : ∀ k, x.men k → Named E m.opds k) : QRes E E' H H2 id m x H :=
  ⟨[], rfl, h, fun k e he => by simp [find] at he, fun k hk => .inr (.inl (hm k hk))⟩

theorem QRes.one {m : MOp} {x : AV} {e : Ent} (h : mval true E' H2 id m = some (x, (id, e) :: H2)) (hm : ∀ k, x.men k → k = id) : QRes E E' H H2 id m x ((id, e) :: H) :=
  ⟨[(id, e)], rfl, h, fun k e' he => by rw [find_cons] at he; split at he; assumption; simp [find] at he, fun k hk => .inl (hm k hk)⟩

theorem QRes.old {m : MOp} {x : AV} (h : mval true E' H2 id m = some (x, H2)) (hm : ∀ k, x.men k → k + 1024 ≤ id) : QRes E E' H H2 id m x H :=
  ⟨[], rfl, h, fun k e he => by simp [find] at he, fun k hk => .inr (.inr (hm k hk))⟩

theorem asI_bind {x : Opd} (h : ev E' x = ev E x) : (ev E' x).bind asI = (ev E x).bind asI := by rw [h]

theorem mrest_local {m : Nat} (h : find H2 m = find H m) : mrest H2 m = mrest H m := by unfold mrest; rw [h]

theorem mval_local {m : MOp} {x : AV} {H' : Heap} (hE : ∀ y ∈ m.opds, ev E' y = ev E y) (hH : ∀ k, Named E m.opds k → find H2 k = find H k) (h : mval true E H id m = some (x, H')) : QRes E E' H H2 id m x H' := by
  have hn : ∀ (y : Opd), y ∈ m.opds → ∀ (u : AV), ev E y = some u → ∀ k, u.men k → Named E m.opds k := fun y hy u hu k hk => ⟨y, hy, u, hu, hk⟩
  cases m with
  | mv y =>
    have h1 := hE y (by simp [MOp.opds])
    simp only [mval, Option.map_eq_some_iff, Prod.mk.injEq] at h
    obtain ⟨a, ha, rfl, rfl⟩ := h
    exact .none (by simp [mval, h1, ha]) (hn y (by simp [MOp.opds]) a ha)
  | nilS sz =>
    simp only [mval, Option.some.injEq, Prod.mk.injEq] at h
    obtain ⟨rfl, rfl⟩ := h
    exact .one (by simp [mval]) (by simp [AV.men])
  | pick c a b =>
    have h1 := hE c (by simp [MOp.opds])
    have h2 := hE a (by simp [MOp.opds])
    have h3 := hE b (by simp [MOp.opds])
    simp only [mval] at h
    split at h
    · rename_i t ht
      simp only [Option.map_eq_some_iff, Prod.mk.injEq] at h
      obtain ⟨v, hv, rfl, rfl⟩ := h
      cases t
      · exact .none (by simp at hv; simp [mval, h1, h3, ht, hv]) (hn b (by simp [MOp.opds]) v (by simpa using hv))
      · exact .none (by simp at hv; simp [mval, h1, h2, ht, hv]) (hn a (by simp [MOp.opds]) v (by simpa using hv))
    · cases h
  | bin op y z =>
    have h1 := hE y (by simp [MOp.opds])
    have h2 := hE z (by simp [MOp.opds])
    simp only [mval] at h
    split at h
    · rename_i u v hu hv
      simp only [Option.map_eq_some_iff, Prod.mk.injEq] at h
      obtain ⟨w, hw, rfl, rfl⟩ := h
      refine .none (by simp [mval, h1, h2, hu, hv, hw]) fun k hk => ?_
      unfold binA at hw
      split at hw
      · simp only [Option.map_eq_some_iff] at hw; obtain ⟨_, _, rfl⟩ := hw; simp [AV.men] at hk
      · cases hw
    · cases h
  | un op y =>
    have h1 := hE y (by simp [MOp.opds])
    simp only [mval] at h
    split at h
    · rename_i u hu
      simp only [Option.map_eq_some_iff, Prod.mk.injEq] at h
      obtain ⟨w, hw, rfl, rfl⟩ := h
      refine .none (by simp [mval, h1, hu, hw]) fun k hk => ?_
      unfold unA at hw
      split at hw
      · split at hw
        · cases hw; simp [AV.men] at hk
        · cases hw
      · split at hw
        · cases hw; simp [AV.men] at hk
        · cases hw
      · cases hw
    · cases h
  | len str y =>
    have h1 := hE y (by simp [MOp.opds])
    cases str with
    | true =>
      simp only [mval] at h
      split at h
      · rename_i b hb
        simp only [Option.some.injEq, Prod.mk.injEq] at h
        obtain ⟨rfl, rfl⟩ := h
        exact .none (by simp [mval, h1, hb]) (by simp [AV.men])
      · cases h
    | false =>
      simp only [mval] at h
      split at h
      · rename_i k lo m hu
        have h3 := hH k (hn y (by simp [MOp.opds]) _ hu k (by simp [AV.men]))
        split at h
        · rename_i hk
          simp only [Option.some.injEq, Prod.mk.injEq] at h
          obtain ⟨rfl, rfl⟩ := h
          exact .none (by simp [mval, h1, hu, h3, hk]) (by simp [AV.men])
        · cases h
      · rename_i u hne hu
        split at h
        · rename_i sz l hl
          simp only [Option.some.injEq, Prod.mk.injEq] at h
          obtain ⟨rfl, rfl⟩ := h
          have h3 := rdRow_local (H2 := H2) fun k hk => hH k (hn y (by simp [MOp.opds]) u hu k hk)
          refine .none ?_ (by simp [AV.men])
          rw [hl] at h3
          cases u with
          | sub k lo m => exact absurd rfl (hne _ _ _)
          | _ => simp only [mval, h1, hu, h3]
        · rename_i hl0
          split at h
          · rename_i m hl
            simp only [Option.some.injEq, Prod.mk.injEq] at h
            obtain ⟨rfl, rfl⟩ := h
            have h3 := rdRow_local (H2 := H2) fun k hk => hH k (hn y (by simp [MOp.opds]) u hu k hk)
            have h4 := nlen_local (H2 := H2) fun k hk => hH k (hn y (by simp [MOp.opds]) u hu k hk)
            refine .none ?_ (by simp [AV.men])
            rw [hl0] at h3
            rw [hl] at h4
            cases u with
            | sub k lo m => exact absurd rfl (hne _ _ _)
            | _ => simp only [mval, h1, hu, h3, h4]
          · cases h
      · cases h
  | mm mx y z =>
    have h1 := hE y (by simp [MOp.opds])
    have h2 := hE z (by simp [MOp.opds])
    simp only [mval] at h
    split at h
    · rename_i k i k' j hu hv
      simp only [Option.some.injEq, Prod.mk.injEq] at h
      obtain ⟨rfl, rfl⟩ := h
      exact .none (by simp [mval, h1, h2, hu, hv]) (by simp [AV.men])
    · rename_i i j hu hv
      simp only [Option.some.injEq, Prod.mk.injEq] at h
      obtain ⟨rfl, rfl⟩ := h
      exact .none (by simp [mval, h1, h2, hu, hv]) (by simp [AV.men])
    · cases h
  | eqb ng y z =>
    have h1 := hE y (by simp [MOp.opds])
    have h2 := hE z (by simp [MOp.opds])
    simp only [mval] at h
    split at h
    · rename_i i j hu hv
      simp only [Option.some.injEq, Prod.mk.injEq] at h
      obtain ⟨rfl, rfl⟩ := h
      exact .none (by simp [mval, h1, h2, hu, hv]) (by simp [AV.men])
    · cases h
  | six y z =>
    have h1 := hE y (by simp [MOp.opds])
    have h2 := asI_bind (hE z (by simp [MOp.opds]))
    simp only [mval] at h
    split at h
    · rename_i b i hu hv
      split at h
      · rename_i h0
        simp only [Option.map_eq_some_iff, Prod.mk.injEq] at h
        obtain ⟨c, hc, rfl, rfl⟩ := h
        exact .none (by simp [mval, h1, h2, hu, hv, h0, hc]) (by simp [AV.men])
      · cases h
    · cases h
  | sls y lo hi =>
    have h1 := hE y (by simp [MOp.opds])
    simp only [mval] at h
    split at h
    · rename_i b hu
      simp only [Option.map_eq_some_iff, Prod.mk.injEq] at h
      obtain ⟨⟨i, j⟩, hb, rfl, rfl⟩ := h
      have h2 := bnds_local (n := b.size) (lo := lo) (hi := hi) (fun w hw => hE w (by simp [MOp.opds, hw])) (fun w hw => hE w (by simp [MOp.opds, hw]))
      exact .none (by simp [mval, h1, hu, h2, hb]) (by simp [AV.men])
    · cases h
  | slc own sz y lo hi =>
    have h1 := hE y (by simp [MOp.opds])
    simp only [mval] at h
    split at h
    · rename_i u hu
      have hloc : ∀ k, u.men k → find H2 k = find H k := fun k hk => hH k (hn y (by simp [MOp.opds]) u hu k hk)
      split at h
      · rename_i sz' l hl
        have h3 := rdRow_local hloc
        split at h
        · rename_i hs
          split at h
          · rename_i i j hb
            have h2 := bnds_local (n := l.length) (lo := lo) (hi := hi) (fun w hw => hE w (by simp [MOp.opds, hw])) (fun w hw => hE w (by simp [MOp.opds, hw]))
            split at h
            · split at h
              · split at h
                · simp at h
                · cases h
              · cases h
            · rename_i ho
              simp only [Option.map_eq_some_iff, Prod.mk.injEq] at h
              obtain ⟨⟨p, H1⟩, ht, rfl, rfl⟩ := h
              obtain ⟨rfl, h4⟩ := tov_local hloc ht
              exact .none (by simp [mval, h1, hu, h3, hl, hs, h2, hb, ho, h4]) (by simp [AV.men])
          · cases h
        · cases h
      · cases h
    · cases h
  | slcP sz y lo hi =>
    simp only [mval] at h
    split at h
    · split at h
      · split at h
        · split at h
          · rename_i hh; simp at hh
          · cases h
        · cases h
      · cases h
    · cases h
  | clr sz agg z y =>
    simp only [mval] at h
    split at h
    · split at h
      · split at h
        · rename_i hh; simp at hh
        · cases h
      · cases h
    · cases h
  | sl0 sz y =>
    have h1 := hE y (by simp [MOp.opds])
    simp only [mval] at h
    split at h
    · rename_i u hu
      split at h
      · rename_i r hl
        simp only [Option.some.injEq, Prod.mk.injEq] at h
        obtain ⟨rfl, rfl⟩ := h
        have h3 := rdRow_local (H2 := H2) fun k hk => hH k (hn y (by simp [MOp.opds]) u hu k hk)
        exact .one (by simp [mval, h1, hu, h3, hl]) (by simp [AV.men])
      · cases h
    · cases h
  | ia sz y z =>
    have h1 := hE y (by simp [MOp.opds])
    have h2 := asI_bind (hE z (by simp [MOp.opds]))
    simp only [mval] at h
    split at h
    · rename_i q lo m i hu hv
      split at h
      · rename_i e he
        have h3 := hH q (hn y (by simp [MOp.opds]) _ hu q (by simp [AV.men]))
        split at h
        · rename_i h0
          simp only [Option.some.injEq, Prod.mk.injEq] at h
          obtain ⟨rfl, rfl⟩ := h
          refine .none (by simp [mval, h1, h2, hu, hv, h3, he, h0]) fun k hk => hn y (by simp [MOp.opds]) _ hu k (by simpa [AV.men] using hk)
        · cases h
      · cases h
    · rename_i sz' l i hu hv
      split at h
      · rename_i h0
        simp only [Option.map_eq_some_iff, Prod.mk.injEq] at h
        obtain ⟨c, hc, rfl, rfl⟩ := h
        exact .none (by simp [mval, h1, h2, hu, hv, h0, hc]) (by simp [AV.men])
      · cases h
    · rename_i q i hu hv
      split at h
      · rename_i e he
        have h3 := hH q (hn y (by simp [MOp.opds]) _ hu q (by simp [AV.men]))
        split at h
        · rename_i hz
          split at h
          · rename_i h0
            simp only [Option.some.injEq, Prod.mk.injEq] at h
            obtain ⟨rfl, rfl⟩ := h
            refine .none (by simp [mval, h1, h2, hu, hv, h3, he, hz, h0]) fun k hk => hn y (by simp [MOp.opds]) _ hu k (by simpa [AV.men] using hk)
          · cases h
        rename_i hz
        split at h
        · rename_i h0
          simp only [Option.map_eq_some_iff, Prod.mk.injEq] at h
          obtain ⟨c, hc, rfl, rfl⟩ := h
          refine .none (by simp only [mval, h1, h2, hu, hv, h3, he, if_neg hz, if_pos h0, hc, Option.map_some]) fun k hk => ?_
          split at hk
          · simp [AV.men] at hk
          · exact hn y (by simp [MOp.opds]) _ hu k (by simpa [AV.men] using hk)
        · cases h
      · cases h
    · cases h
  | iaA n' sz y z =>
    have h1 := hE y (by simp [MOp.opds])
    have h2 := asI_bind (hE z (by simp [MOp.opds]))
    simp only [mval] at h
    split at h
    · rename_i q i off j hu hv
      have h3 := hH q (hn y (by simp [MOp.opds]) _ hu q (by simp [AV.men]))
      split at h
      · rename_i h0
        simp only [Option.some.injEq, Prod.mk.injEq] at h
        obtain ⟨rfl, rfl⟩ := h
        refine .none (by simp [mval, h1, h2, hu, hv, h3, h0]) fun k hk => hn y (by simp [MOp.opds]) _ hu k (by simpa [AV.men] using hk)
      · cases h
    · rename_i cs j hu hv
      split at h
      · rename_i h0
        simp only [Option.some.injEq, Prod.mk.injEq] at h
        obtain ⟨rfl, rfl⟩ := h
        exact .none (by simp [mval, h1, h2, hu, hv, h0]) (by simp [AV.men])
      · cases h
    · cases h
  | fa off y =>
    have h1 := hE y (by simp [MOp.opds])
    simp only [mval] at h
    split at h
    · rename_i q i off hu
      have h3 := hH q (hn y (by simp [MOp.opds]) _ hu q (by simp [AV.men]))
      split at h
      · rename_i h0
        simp only [Option.some.injEq, Prod.mk.injEq] at h
        obtain ⟨rfl, rfl⟩ := h
        refine .none (by simp [mval, h1, hu, h3, h0]) fun k hk => hn y (by simp [MOp.opds]) _ hu k (by simpa [AV.men] using hk)
      · cases h
    · rename_i cs hu
      simp only [Option.some.injEq, Prod.mk.injEq] at h
      obtain ⟨rfl, rfl⟩ := h
      exact .none (by simp [mval, h1, hu]) (by simp [AV.men])
    · cases h
  | fld agg off sz y =>
    have h1 := hE y (by simp [MOp.opds])
    simp only [mval] at h
    split at h
    · rename_i cs hu
      simp only [Option.map_eq_some_iff, Prod.mk.injEq] at h
      obtain ⟨c, hc, rfl, rfl⟩ := h
      exact .none (by simp [mval, h1, hu, hc]) (by simp [AV.men])
    · cases h
  | aix agg n' sz y z =>
    have h1 := hE y (by simp [MOp.opds])
    have h2 := asI_bind (hE z (by simp [MOp.opds]))
    simp only [mval] at h
    split at h
    · rename_i cs j hu hv
      split at h
      · rename_i h0
        simp only [Option.map_eq_some_iff, Prod.mk.injEq] at h
        obtain ⟨c, hc, rfl, rfl⟩ := h
        exact .none (by simp [mval, h1, h2, hu, hv, h0, hc]) (by simp [AV.men])
      · cases h
    · cases h
  | ld agg sz y =>
    have h1 := hE y (by simp [MOp.opds])
    simp only [mval] at h
    split at h
    · rename_i cs hu
      simp only [Option.map_eq_some_iff, Prod.mk.injEq] at h
      obtain ⟨c, hc, rfl, rfl⟩ := h
      exact .none (by simp [mval, h1, hu, hc]) (by simp [AV.men])
    · rename_i q i off hu
      have h3 := hH q (hn y (by simp [MOp.opds]) _ hu q (by simp [AV.men]))
      split at h
      · rename_i e he
        split at h
        · rename_i hz
          split at h
          · rename_i hf
            split at h
            · unfold ldS at h
              rw [if_neg (by simp)] at h
              cases h
            rename_i hag
            simp only [Option.map_eq_some_iff, Prod.mk.injEq] at h
            obtain ⟨u, hl, rfl, rfl⟩ := h
            have k2 : ∀ k, u.men k → k + 1024 ≤ id := by
              intro k hk
              unfold ldX at hl
              split at hl
              · split at hl
                · split at hl
                  · split at hl
                    · split at hl
                      · cases hl
                      · rename_i hle
                        cases hl
                        simp only [AV.men] at hk
                        simp at hle
                        omega
                    · split at hl
                      · cases hl
                      · cases hl; simp [AV.men] at hk
                  · split at hl
                    · cases hl
                    · cases hl; simp [AV.men] at hk
                  · rename_i p hrf hp
                    split at hl
                    · split at hl
                      · cases hl
                      · rename_i hle
                        cases hl
                        simp only [AV.men] at hk
                        subst hk
                        exact dOld_at (by simpa using hle) (List.getElem?_eq_some_iff.1 hp).1
                    · cases hl
                  · cases hl
                · cases hl
              · cases hl
            exact .old (by simp only [mval, h1, hu, h3, he, if_pos hz, if_pos hf, if_neg hag, hl, Option.map_some]) k2
          · cases h
        rename_i hz
        split at h
        · rename_i w hw
          split at h
          · rename_i h0
            simp only [Option.map_eq_some_iff, Prod.mk.injEq] at h
            obtain ⟨c, hc, rfl, rfl⟩ := h
            exact .none (by simp only [mval, h1, hu, h3, he, if_neg hz, hw, if_pos h0, hc, Option.map_some]) (by simp [AV.men])
          · cases h
        · cases h
      · cases h
    · cases h
  | stt agg sz y z =>
    simp only [mval] at h
    split at h
    · split at h
      · unfold sttN at h
        split at h
        · split at h
          · split at h
            · rename_i hh; simp at hh
            · cases h
          · cases h
        · cases h
      · cases h
    split at h
    · split at h
      · split at h
        · split at h
          · unfold sttM at h
            split at h
            · rw [if_neg (by simp)] at h; cases h
            · cases h
          · cases h
        split at h
        · split at h
          · rename_i hh; simp at hh
          · cases h
        · cases h
      · cases h
    · cases h
  | box ld y =>
    have h1 := hE y (by simp [MOp.opds])
    simp only [mval] at h
    split at h
    · rename_i p H1 hp
      obtain ⟨u, hu, hp⟩ := Option.bind_eq_some_iff.1 hp
      obtain ⟨rfl, h4⟩ := tov_local (H2 := H2) (fun k hk => hH k (hn y (by simp [MOp.opds]) u hu k hk)) hp
      split at h
      · cases h
      rename_i hz
      simp only [Option.some.injEq, Prod.mk.injEq] at h
      obtain ⟨rfl, rfl⟩ := h
      exact .one (by simp [mval, h1, hu, h4, hz]) (by simp [AV.men])
    · cases h
  | alloc agg z =>
    simp only [mval, Option.some.injEq, Prod.mk.injEq] at h
    obtain ⟨rfl, rfl⟩ := h
    exact .one (by simp [mval]) (by simp [AV.men])
  | alcN z =>
    simp only [mval, Option.some.injEq, Prod.mk.injEq] at h
    obtain ⟨rfl, rfl⟩ := h
    exact .one (by simp [mval]) (by simp [AV.men])
  | build ld z ps =>
    simp only [mval, Option.map_eq_some_iff, Prod.mk.injEq] at h
    obtain ⟨⟨cs, H1⟩, hb, rfl, rfl⟩ := h
    obtain ⟨rfl, h2⟩ := buildP_local (E' := E') (H2 := H2) ps z cs H1 hE hH hb
    exact .none (by simp [mval, h2]) (by simp [AV.men])
  | buildS ld sz n' agg z ps =>
    simp only [mval, Option.map_eq_some_iff, Prod.mk.injEq] at h
    obtain ⟨⟨cs, H1⟩, hb, rfl, rfl⟩ := h
    obtain ⟨rfl, h2⟩ := buildL_local (E' := E') (H2 := H2) ps _ cs H1 hE hH hb
    exact .one (by simp [mval, h2]) (by simp [AV.men])
  | mup ag ks y k v =>
    simp only [mval] at h
    split at h
    · split at h
      · rw [if_neg (by simp)] at h; cases h
      · cases h
    · cases h
  | mkM =>
    simp only [mval, Option.some.injEq, Prod.mk.injEq] at h
    obtain ⟨rfl, rfl⟩ := h
    exact .one (by simp [mval]) (by simp [AV.men])
  | mlk ag ks ok z y k =>
    have h1 := hE y (by simp [MOp.opds])
    have h2 := hE k (by simp [MOp.opds])
    simp only [mval] at h
    split at h
    · rename_i m kp hu hv
      have h3 := mrest_local (hH m (hn y (by simp [MOp.opds]) _ hu m (by simp [AV.men])))
      split at h
      · rename_i rest hr
        split at h
        · cases h
        · rename_i hk
          split at h
          · rename_i p hf
            cases h
            exact .none (by simp [mval, h1, h2, hu, hv, h3, hr, hk, hf]) (by cases ok <;> simp [AV.men, AV.mens])
          · rename_i hf
            cases h
            exact .none (by simp [mval, h1, h2, hu, hv, h3, hr, hk, hf]) (by cases ok <;> simp [AV.men, AV.mens])
          · cases h
      · cases h
    · cases h
  | mln y =>
    have h1 := hE y (by simp [MOp.opds])
    simp only [mval] at h
    split at h
    · rename_i m hu
      have h3 := mrest_local (hH m (hn y (by simp [MOp.opds]) _ hu m (by simp [AV.men])))
      obtain ⟨rest, hr, h⟩ := Option.map_eq_some_iff.1 h
      cases h
      exact .none (by simp [mval, h1, hu, h3, hr]) (by simp [AV.men])
    · cases h
  | rng y =>
    have h1 := hE y (by simp [MOp.opds])
    simp only [mval] at h
    split at h
    · rename_i m hu
      have h3 := mrest_local (hH m (hn y (by simp [MOp.opds]) _ hu m (by simp [AV.men])))
      obtain ⟨rest, hr, h⟩ := Option.map_eq_some_iff.1 h
      cases h
      exact .one (by simp [mval, h1, hu, h3, hr]) (by simp [AV.men])
    · cases h
  | ent y => simp [mval] at h
  | ldR sz y =>
    have h1 := hE y (by simp [MOp.opds])
    simp only [mval] at h
    split at h
    · rename_i k i o hu
      have h3 := hH k (hn y (by simp [MOp.opds]) _ hu k (by simp [AV.men]))
      split at h
      · rename_i e he
        split at h
        · rename_i hz
          unfold ldSR at h
          split at h
          · rename_i hc
            split at h
            · rename_i rest H1 hd
              rw [if_pos rfl] at hd
              have hd2 : H1 = H ∧ derefQ H2 e = some (rest, H2) := by
                unfold derefQ at hd ⊢
                split at hd
                · split at hd
                  · rename_i hg; cases hd; simp [hg]
                  · cases hd
                · cases hd
              obtain ⟨rfl, hd2⟩ := hd2
              split at h
              · rename_i hc2
                cases h
                exact .none (by simp [mval, h1, hu, h3, he, hz, ldSR, hc, hd2, hc2]) (by simp [AV.men])
              · cases h
            · cases h
          · cases h
        · cases h
      · cases h
    · cases h
  | buildV sz n' agg z ps =>
    simp only [mval] at h
    split at h
    · cases h
    rename_i hz0
    simp only [Option.map_eq_some_iff, Prod.mk.injEq] at h
    obtain ⟨⟨cs, H1⟩, hb, rfl, rfl⟩ := h
    obtain ⟨rfl, h2⟩ := buildL_local (E' := E') (H2 := H2) ps _ cs H1 hE hH hb
    exact .none (by simp [mval, h2, hz0]) (by simp [AV.men])
  | app sz bytes y z =>
    simp only [mval] at h
    split at h
    · split at h
      · split at h
        · rename_i hh; simp at hh
        · cases h
      · cases h
    · split at h
      · split at h
        · rename_i hh; simp at hh
        · cases h
      · cases h
    · cases h
  | appX fz c d sz bytes y z =>
    simp only [mval] at h
    split at h
    · split at h
      · split at h
        · rename_i hh; simp at hh
        · cases h
      · cases h
    · cases h
  | cln sz bytes y =>
    have h1 := hE y (by simp [MOp.opds])
    simp only [mval] at h
    split at h
    · rename_i u hu
      have h3 := rdRow_local (H2 := H2) fun k hk => hH k (hn y (by simp [MOp.opds]) u hu k hk)
      split at h
      · rename_i sz' ys hl
        split at h
        · rename_i hc
          simp only [Option.some.injEq, Prod.mk.injEq] at h
          obtain ⟨rfl, rfl⟩ := h
          exact .one (by simp only [mval, h1, hu, h3, hl, if_pos hc]) (by simp [AV.men])
        · cases h
      · cases h
    · cases h
  | clnV sz bytes y =>
    have h1 := hE y (by simp [MOp.opds])
    simp only [mval] at h
    split at h
    · rename_i u hu
      have h3 := rdRow_local (H2 := H2) fun k hk => hH k (hn y (by simp [MOp.opds]) u hu k hk)
      split at h
      · rename_i sz' ys hl
        split at h
        · rename_i hc
          simp only [Option.some.injEq, Prod.mk.injEq] at h
          obtain ⟨rfl, rfl⟩ := h
          exact .none (by simp only [mval, h1, hu, h3, hl, if_pos hc]) (by simp [AV.men])
        · cases h
      · cases h
    · cases h
  | mki t y =>
    have h1 := hE y (by simp [MOp.opds])
    simp only [mval] at h
    split at h
    · rename_i u hu
      simp only [Option.map_eq_some_iff, Prod.mk.injEq] at h
      obtain ⟨⟨p, H3⟩, hp, rfl, rfl⟩ := h
      obtain ⟨g1, g2⟩ := tov_local (H2 := H2) (fun k hk => hH k (hn y (by simp [MOp.opds]) u hu k hk)) hp
      subst g1
      exact .none (by simp only [mval, h1, hu, g2, Option.map_some]) (by simp [AV.men])
    · cases h
  | asrt t ok y =>
    have h1 := hE y (by simp [MOp.opds])
    simp only [mval] at h
    split at h
    · rename_i t' p hu
      split at h
      · rename_i he
        simp only [Option.some.injEq, Prod.mk.injEq] at h
        obtain ⟨rfl, rfl⟩ := h
        exact .none (by simp only [mval, h1, hu, if_pos he]) (by intro k hk; cases ok <;> simp [AV.men, AV.mens] at hk)
      · rename_i he
        split at h
        · rename_i hok
          simp only [Option.some.injEq, Prod.mk.injEq] at h
          obtain ⟨rfl, rfl⟩ := h
          exact .none (by simp only [mval, h1, hu, if_neg he, if_pos hok]) (by simp [AV.men, AV.mens])
        · cases h
    · rename_i hu
      split at h
      · rename_i hok
        simp only [Option.some.injEq, Prod.mk.injEq] at h
        obtain ⟨rfl, rfl⟩ := h
        exact .none (by simp only [mval, h1, hu, if_pos hok]) (by simp [AV.men, AV.mens])
      · cases h
    · cases h
  | nilq ng y =>
    have h1 := hE y (by simp [MOp.opds])
    simp only [mval] at h
    split at h
    · rename_i hu
      simp only [Option.some.injEq, Prod.mk.injEq] at h
      obtain ⟨rfl, rfl⟩ := h
      exact .none (by simp [mval, h1, hu]) (by simp [AV.men])
    · rename_i u hne hu
      split at h
      · rename_i sz l hl
        simp only [Option.some.injEq, Prod.mk.injEq] at h
        obtain ⟨rfl, rfl⟩ := h
        have h3 := rdRow_local (H2 := H2) fun k hk => hH k (hn y (by simp [MOp.opds]) u hu k hk)
        refine .none ?_ (by intro k hk; split at hk <;> simp [AV.men] at hk)
        rw [hl] at h3
        simp only [mval, h1, hu]
        rw [h3]
      · cases h
    · cases h
  | eqS ng ks y z =>
    have h1 := hE y (by simp [MOp.opds])
    have h2 := hE z (by simp [MOp.opds])
    simp only [mval] at h
    split at h
    · rename_i cs ds hu hv
      simp only [Option.map_eq_some_iff, Prod.mk.injEq] at h
      obtain ⟨rb, hrb, rfl, rfl⟩ := h
      exact .none (by simp [mval, h1, h2, hu, hv, hrb]) (by simp [AV.men])
    · cases h
  | mm3 mx y z w =>
    have h1 := hE y (by simp [MOp.opds])
    have h2 := hE z (by simp [MOp.opds])
    have h3 := hE w (by simp [MOp.opds])
    simp only [mval] at h
    split at h
    · rename_i k i k' j k'' m hu hv hw
      simp only [Option.some.injEq, Prod.mk.injEq] at h
      obtain ⟨rfl, rfl⟩ := h
      exact .none (by simp [mval, h1, h2, h3, hu, hv, hw]) (by simp [AV.men])
    · cases h
  | mkS sz bytes agg z y w =>
    have h1 := asI_bind (hE y (by simp [MOp.opds]))
    have h2 := asI_bind (hE w (by simp [MOp.opds]))
    simp only [mval] at h
    split at h
    · rename_i n' c hu hv
      split at h
      · rename_i h0
        simp only [Option.some.injEq, Prod.mk.injEq] at h
        obtain ⟨rfl, rfl⟩ := h
        exact .one (by simp [mval, h1, h2, hu, hv, h0]) (by simp [AV.men])
      · cases h
    · cases h
  | ext y i =>
    have h1 := hE y (by simp [MOp.opds])
    simp only [mval] at h
    split at h
    · rename_i l hu
      simp only [Option.map_eq_some_iff, Prod.mk.injEq] at h
      obtain ⟨c, hc, rfl, rfl⟩ := h
      exact .none (by simp [mval, h1, hu, hc]) fun k hk => hn y (by simp [MOp.opds]) _ hu k (by simp only [AV.men]; exact mens_get hc hk)
    · cases h
  | conv k y =>
    have h1 := hE y (by simp [MOp.opds])
    simp only [mval] at h
    split at h
    · rename_i k' i hu
      simp only [Option.some.injEq, Prod.mk.injEq] at h
      obtain ⟨rfl, rfl⟩ := h
      exact .none (by simp [mval, h1, hu]) (by simp [AV.men])
    · cases h
  | cvS y =>
    have h1 := hE y (by simp [MOp.opds])
    simp only [mval] at h
    split at h
    · rename_i b hu
      simp only [Option.some.injEq, Prod.mk.injEq] at h
      obtain ⟨rfl, rfl⟩ := h
      exact .none (by simp [mval, h1, hu]) (by simp [AV.men])
    · cases h
  | chk y =>
    have h1 := hE y (by simp [MOp.opds])
    simp only [mval] at h
    split at h
    · rename_i q i off hu
      have h3 := hH q (hn y (by simp [MOp.opds]) _ hu q (by simp [AV.men]))
      split at h
      · rename_i h0
        simp only [Option.some.injEq, Prod.mk.injEq] at h
        obtain ⟨rfl, rfl⟩ := h
        exact .none (by simp [mval, h1, hu, h3, h0]) (hn y (by simp [MOp.opds]) _ hu)
      · cases h
    · rename_i cs hu
      simp only [Option.some.injEq, Prod.mk.injEq] at h
      obtain ⟨rfl, rfl⟩ := h
      exact .none (by simp [mval, h1, hu]) (hn y (by simp [MOp.opds]) _ hu)
    · rename_i f cs hu
      simp only [Option.some.injEq, Prod.mk.injEq] at h
      obtain ⟨rfl, rfl⟩ := h
      exact .none (by simp [mval, h1, hu]) (hn y (by simp [MOp.opds]) _ hu)
    · cases h
  | mkf f caps =>
    simp only [mval, Option.map_eq_some_iff, Prod.mk.injEq] at h
    obtain ⟨l, hl, rfl, rfl⟩ := h
    obtain ⟨g1, g2⟩ := evs_local hE hl
    exact .none (by have g1 : evs E' caps = some l := g1; simp [mval, g1]) fun k hk => g2 k (by simpa [AV.men] using hk)

end
end Go.AM
/- Quiet steps hang on what they read alone. -/
set_option linter.all false
namespace Go.AM
open Go
variable [dr : Inhabited Prop]

def Opd.tmps : Opd → List Nat
  | .t n => [n]
  | .im r _ => [r]
  | .pl r => [r]
  | _ => []

def MO.g : MO → Option (Nat × Bool)
  | .op g _ _ => g
  | .store g _ => g
  | .call g _ _ _ => g
  | .inc .. => none

def MO.opds : MO → List Opd
  | .op _ _ m => m.opds
  | .store _ m => m.opds
  | .call _ _ f as => as ++ [f]
  | .inc _ _ _ _ _ _ x k => [x, k]

def gTmps : Option (Nat × Bool) → List Nat
  | none => []
  | some (t, _) => [t]

def MO.reads (mo : MO) : List Nat := gTmps mo.g ++ mo.opds.flatMap Opd.tmps

def MO.loud : MO → Bool
  | .store .. => true
  | .op _ _ m => match m with
    | .app .. => true
    | .appX .. => true
    | .slc own .. => own
    | .box ld _ => ld
    | .build ld .. => ld
    | .buildS ld .. => ld
    | .stt .. => true
    | _ => false
  | .call .. => false
  | .inc .. => true

section
variable {P : Program} {s s' : St} {mo : MO} {E' : Env} {H2 : Heap}

theorem ev_local {E : Env} {xs : List Opd} (h : ∀ t ∈ xs.flatMap Opd.tmps, find E' t = find E t) : ∀ y ∈ xs, ev E' y = ev E y := by
  intro y hy
  cases y with
  | t n => exact h n (List.mem_flatMap.2 ⟨_, hy, by simp [Opd.tmps]⟩)
  | c p => rfl
  | f n => rfl
  | im r tab => simp only [ev]; rw [h r (List.mem_flatMap.2 ⟨_, hy, by simp [Opd.tmps]⟩)]
  | pl r => simp only [ev]; rw [h r (List.mem_flatMap.2 ⟨_, hy, by simp [Opd.tmps]⟩)]

theorem guard_local {E : Env} {g : Option (Nat × Bool)} (h : ∀ t ∈ gTmps g, find E' t = find E t) : guardOf E' g = guardOf E g := by
  cases g with
  | none => rfl
  | some p => obtain ⟨t, w⟩ := p; simp only [guardOf, h t (by simp [gTmps])]

mutual
theorem passA_local {b : Bool} {H : Heap} {ids : List Nat} : ∀ (x y : AV), (∀ k, x.men k → find H2 k = find H k) → passA b H ids x = some y → passA b H2 ids x = some y
  | .h id, y, hH, h => by simp only [passA] at *; rw [hH id (by simp [AV.men])]; exact h
  | .ptr id i o, y, hH, h => by simp only [passA] at *; rw [hH id (by simp [AV.men])]; exact h
  | .sub id i o, y, hH, h => by simp only [passA] at *; exact h
  | .fn f l, y, hH, h => by
    simp only [passA] at *
    split at h
    · rename_i l' hl
      cases h
      rw [passAs_local l l' (fun k hk => hH k (by simpa [AV.men] using hk)) hl]
    · cases h
  | .u, y, _, h => by simpa [passA] using h
  | .v _, y, _, h => by simpa [passA] using h
  | .rp _, y, _, h => by simpa [passA] using h
  | .tup _, y, _, h => by simpa [passA] using h
theorem passAs_local {b : Bool} {H : Heap} {ids : List Nat} : ∀ (l l' : List AV), (∀ k, AV.mens l k → find H2 k = find H k) → passAs b H ids l = some l' → passAs b H2 ids l = some l'
  | [], l', _, h => by simpa [passAs] using h
  | x :: l, l', hH, h => by
    simp only [passAs] at *
    split at h
    · rename_i y ys h1 h2
      cases h
      rw [passA_local x y (fun k hk => hH k (by simp [AV.mens, hk])) h1, passAs_local l ys (fun k hk => hH k (by simp [AV.mens, hk])) h2]
    · cases h
end

theorem passH_local {H : Heap} : ∀ (ids : List Nat) (k0 : Nat), (∀ id ∈ ids, find H2 id = find H id) → passH H2 k0 ids = passH H k0 ids
  | [], k0, _ => rfl
  | id :: l, k0, h => by
    simp only [passH]
    rw [h id (by simp), passH_local l (k0 + 1) fun i hi => h i (by simp [hi])]

theorem mens_append : ∀ (l l' : List AV) (k : Nat), AV.mens (l ++ l') k → AV.mens l k ∨ AV.mens l' k
  | [], l', k, h => .inr (by simpa using h)
  | x :: l, l', k, h => by
    simp only [List.cons_append, AV.mens] at h
    rcases h with h | h
    · exact .inl (by simp [AV.mens, h])
    · rcases mens_append l l' k h with h | h
      · exact .inl (by simp [AV.mens, h])
      · exact .inr h

theorem callQ_local {d : Nat} {f : Opd} {args : List Opd} {x : AV} {N : Heap} (hE : ∀ y ∈ args ++ [f], ev E' y = ev s.env y) (hH : ∀ k, Named' s.env (args ++ [f]) k → find H2 k = find s.heap k) (h : CallQ P s d f args x N) :
    CallQ P ⟨E', H2, s.nx⟩ d f args x N ∧ (∀ k e, find N k = some e → ∃ j, j < 8 ∧ k = s.nx + d + 1024 * j) ∧ ∀ k, x.men k → (∃ j, j < 8 ∧ k = s.nx + d + 1024 * j) ∨ Named' s.env (args ++ [f]) k := by
  have hmens : ∀ {u : AV} {fid : FuncId} {caps as : List AV}, ev s.env f = some u → fnOf u = some (fid, caps) → evs s.env args = some as → (∀ k, AV.mens (as ++ caps) k → find H2 k = find s.heap k) := by
    intro u fid caps as h1 h2 h3 k hk
    refine hH k ?_
    rcases mens_append as caps k hk with hk | hk
    · obtain ⟨y, hy, r⟩ := (evs_local (E' := s.env) (fun _ _ => rfl) h3).2 k hk
      exact ⟨y, by simp [hy], r⟩
    · exact ⟨f, by simp, u, h1, fnOf_men h2 k hk⟩
  have hf := hE f (by simp)
  have ha : ∀ {as : List AV}, evs s.env args = some as → evs E' args = some as := fun h => (evs_local (fun y hy => hE y (by simp [hy])) h).1
  cases h with
  | lent h1 h2 h3 h4 h5 h6 =>
    exact ⟨CallQ.lent (s := ⟨E', H2, s.nx⟩) (hf.trans h1) h2 (ha h3) (passAs_local _ _ (hmens h1 h2 h3) h4) h5 h6, by simp [find], fun k hk => (flat_men _ k h6 hk).elim⟩
  | plain h1 h2 h3 h4 h5 h6 h7 =>
    rename_i u fid caps as ys res Hout
    refine ⟨CallQ.plain (s := ⟨E', H2, s.nx⟩) (hf.trans h1) h2 (ha h3) (passAs_local _ _ (hmens h1 h2 h3) h4) h5 h6 h7, ?_, ?_⟩
    · intro k e he
      have := find_mem he
      simp only [List.mem_map, Prod.mk.injEq] at this
      obtain ⟨p, hp, rfl, _⟩ := this
      exact ⟨p.1, (h6 p hp).1, by simp [bk]⟩
    · intro k hk
      obtain ⟨j, g1, g2⟩ := men_back res k hk
      exact .inl ⟨j, h7 j g1, by rw [← g2]; simp [bk]⟩
  | same h1 h2 h3 h4 h5 h6 h7 h8 h9 =>
    rename_i u fid caps as ys ids res
    have hids : ∀ id ∈ ids, find H2 id = find s.heap id := fun id hi => hH id (h9 id hi)
    have hp := passH_local (H2 := H2) (H := s.heap) ids 0 hids
    refine ⟨CallQ.same (s := ⟨E', H2, s.nx⟩) (hf.trans h1) h2 (ha h3) (passAs_local _ _ (hmens h1 h2 h3) h4) h5 (fun id hi => by simp only; rw [hids id hi]; exact h6 id hi) (by simp only; rw [hp]; exact h7) h8 ?_, by simp [find], ?_⟩
    · intro id hi
      obtain ⟨y, hy, u, hu, hm⟩ := h9 id hi
      exact ⟨y, hy, u, (hE y hy).trans hu, hm⟩
    · intro k hk
      obtain ⟨j, g1, g2⟩ := men_back res k hk
      have hj := h8 j g1
      have e : ids[j]? = some ids[j] := List.getElem?_eq_getElem hj
      unfold bk at g2
      rw [e] at g2
      exact .inr (h9 k (by rw [← g2]; exact List.getElem_mem hj))

/-- A quiet step, wherever what it reads is the same. -/
theorem step_local (hl : mo.loud = false) (h : AStep P true s mo s') :
    ∃ d x N, mo.dst = some d ∧ s' = ⟨(d, x) :: s.env, N ++ s.heap, s.nx⟩ ∧ (∀ k e, find N k = some e → news mo s.nx k) ∧ (∀ k, x.men k → news mo s.nx k ∨ Named' s.env mo.opds k ∨ ∃ d, mo.dst = some d ∧ k + 1024 ≤ s.nx + d) ∧
      ∀ E' H2, (∀ t ∈ mo.reads, find E' t = find s.env t) → (∀ k, Named' s.env mo.opds k → find H2 k = find s.heap k) → AStep P true ⟨E', H2, s.nx⟩ mo ⟨(d, x) :: E', N ++ H2, s.nx⟩ := by
  have hg : ∀ E', (∀ t ∈ mo.reads, find E' t = find s.env t) → guardOf E' mo.g = guardOf s.env mo.g := fun E' h => guard_local fun t ht => h t (by simp [MO.reads, ht])
  have he : ∀ E', (∀ t ∈ mo.reads, find E' t = find s.env t) → ∀ y ∈ mo.opds, ev E' y = ev s.env y := fun E' h => ev_local fun t ht => h t (by simp only [MO.reads, List.mem_append]; exact .inr ht)
  cases h with
  | skip hgv =>
    rename_i g d m
    exact ⟨d, .tup [], [], rfl, rfl, by simp [find], by simp [AV.men, AV.mens], fun E' H2 h1 h2 => AStep.skip (s := ⟨E', H2, s.nx⟩) ((hg E' h1).trans hgv)⟩
  | skipC hgv =>
    rename_i g d f as
    exact ⟨d, .tup [], [], rfl, rfl, by simp [find], by simp [AV.men, AV.mens], fun E' H2 h1 h2 => AStep.skipC (s := ⟨E', H2, s.nx⟩) ((hg E' h1).trans hgv)⟩
  | skipS hgv => simp [MO.loud] at hl
  | store hgv _ hm => simp [MO.loud] at hl
  | op hgv hm =>
    rename_i g d m x H'
    obtain ⟨N, rfl, _, q2, q3⟩ := mval_local (E' := s.env) (H2 := s.heap) (fun _ _ => rfl) (fun _ _ => rfl) hm
    refine ⟨d, x, N, rfl, rfl, fun k e hk => ⟨d, rfl, 0, by omega, by rw [q2 k e hk]; omega⟩, fun k hk => ?_, fun E' H2 h1 h2 => ?_⟩
    · rcases q3 k hk with rfl | h | h
      · exact .inl ⟨d, rfl, 0, by omega, by omega⟩
      · exact .inr (.inl h)
      · exact .inr (.inr ⟨d, rfl, h⟩)
    · obtain ⟨N', hN', r1, _, _⟩ := mval_local (E' := E') (H2 := H2) (he E' h1) h2 hm
      have : N' = N := List.append_cancel_right hN'.symm
      subst this
      exact AStep.op (s := ⟨E', H2, s.nx⟩) ((hg E' h1).trans hgv) r1
  | call _ _ hq => cases hq
  | callQ hgv hc =>
    rename_i g d f as x N
    obtain ⟨_, q2, q3⟩ := callQ_local (E' := s.env) (H2 := s.heap) (fun _ _ => rfl) (fun _ _ => rfl) hc
    refine ⟨d, x, N, rfl, rfl, fun k e hk => ?_, fun k hk => ?_, fun E' H2 h1 h2 => ?_⟩
    · obtain ⟨j, g1, g2⟩ := q2 k e hk; exact ⟨d, rfl, j, g1, g2⟩
    · rcases q3 k hk with ⟨j, g1, g2⟩ | h
      · exact .inl ⟨d, rfl, j, g1, g2⟩
      · exact .inr (.inl h)
    · exact AStep.callQ (s := ⟨E', H2, s.nx⟩) ((hg E' h1).trans hgv) (callQ_local (he E' h1) h2 hc).1

theorem step_nx {q : Bool} (h : AStep P q s mo s') : s'.nx = s.nx := by
  cases h with
  | call _ hc _ => cases hc <;> rfl
  | _ => rfl

end
end Go.AM

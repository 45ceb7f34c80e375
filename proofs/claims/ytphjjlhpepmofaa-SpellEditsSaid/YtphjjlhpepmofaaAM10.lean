/- Storing, boxes, aggregates, new rows, cuts of rows. -/
import Derived.Test.YtphjjlhpepmofaaAM9
set_option linter.all false
namespace Go.AM
open Go

theorem lay_elem {c : List Value} {o' L i off sz : Nat} {news : List Value} (h1 : off + news.length ≤ sz) (h2 : (i + 1) * sz ≤ L * sz) (h3 : o' + L * sz ≤ c.length) :
    ((lay c (o' + i * sz + off) news).drop o').take (L * sz) =
      ((c.drop o').take (L * sz)).take (i * sz) ++ lay ((((c.drop o').take (L * sz)).drop (i * sz)).take sz) off news ++ ((c.drop o').take (L * sz)).drop ((i + 1) * sz) := by
  have hm : (i + 1) * sz = i * sz + sz := by rw [Nat.add_mul, Nat.one_mul]
  have hl : ((c.drop o').take (L * sz)).length = L * sz := by rw [List.length_take, List.length_drop]; omega
  have hd : (c.drop o').length = c.length - o' := List.length_drop
  rw [drop_lay (by omega) (by omega)]
  have e : o' + i * sz + off - o' = i * sz + off := by omega
  rw [e, take_lay (by omega) (by omega), lay_seg h1 (by omega), hm]

section
variable {P : Program} {C : Cx} {n : Nat} {F : Nat → Prop} {s : St} {a : Act} {W : World} {hdr : Nat → Value} {ow : Nat → Option Nat} {id : Nat} {o : Oper}

theorem stt_core (r : RelAt C n F s a W hdr ow) {x y : Operand} {x' y' : Opd} {t t1 t2 : TypeId} {q i off : Nat} {u : AV} {p el : PV} {H1 : Heap} {en : Ent} (ho : o.op = .store t x y) (hk : knownT P t = true) (hx : opd P t1 x = some x') (hy : opd P t2 y = some y')
    (hu : ev s.env x' = some (.ptr q i off)) (hv : ev s.env y' = some u) {qq : Bool} (hp : tov qq s.heap u = some (p, H1)) (hq : find H1 q = some en) (hel : en.l[i]? = some el) (hf : en.fro = false) (hpc : p.cells.length = szT P t)
    (hoff : off + szT P t ≤ el.cells.length) (hec : el.cells.length = en.sz) (hz : en.sz ≠ 0) :
    ∃ W' ow', (execOp a.eval o).run P W = .ok .skip W' ∧ RelAt C n F { s with heap := setIn H1 q { en with l := en.l.set i (mkEl el (layP el.cells off p.cells)) } } a W' hdr ow' := by
  have hux := (opd_ok r hx hu).1
  have hvy := (opd_ok r hy hv).1
  obtain ⟨ow1, r1, hpv, hok1, hh⟩ := tov_ok r hvy hp
  obtain ⟨e0, he0, hes, hel0⟩ := hh q en hq
  simp only [RepA] at hux
  obtain ⟨b', o', n', c', hx1, hx2⟩ := hux e0 he0
  have hi : i < en.l.length := (List.getElem?_eq_some_iff.1 hel).1
  rcases r1.getOwn hq hf hz with ⟨g1, _⟩ | ⟨b, off2, cap, c, g1, g2, g3, g4, g5, g6⟩
  · rw [g1] at hel; simp at hel
  · rw [hx1] at g2
    simp only [Value.slice.injEq, Option.some.injEq, Addr.mk.injEq, and_true] at g2
    obtain ⟨⟨rfl, rfl⟩, rfl, rfl⟩ := g2
    rw [Ent.w_congr hes, Ent.w_of hz] at hx2
    have hpC := hpv.toC
    obtain ⟨hp1, hp2⟩ := hpC.cells
    have hpl : (a.eval y).cells.toList.length = szT P t := by
      have := hp1.length; rw [Nat.mul_one] at this; rw [this, hpc]
    have hseg : (i + 1) * en.sz ≤ en.l.length * en.sz := Nat.mul_le_mul_right _ hi
    have hm : (i + 1) * en.sz = i * en.sz + en.sz := by rw [Nat.add_mul, Nat.one_mul]
    have hcap := Nat.mul_le_mul_right en.sz g5
    have hvl := g6.length
    have hrun : (storeVar t ⟨b', o' + i * en.sz + off, none⟩ (a.eval y)).run P W = .ok () (W.setCells b' (o' + i * en.sz + off) (a.eval y).cells.toList) := by
      have hst := run_storeCells_cells (P := P) b' (o' + i * en.sz + off) (a.eval y).cells.toList 0 W
        (by intro j hj; rw [cell_row (rowO_row g3), List.getElem?_eq_getElem (by omega)]; rfl)
        (by intro j hj; exact rowO_frozen g3 _) (hp1.oneCell hp2)
      rw [Nat.add_zero] at hst
      have hsz2 : (a.eval y).cells.size = szT P t := by rw [← Array.length_toList]; exact hpl
      simp [storeVar, run_sizeOf hk, hsz2, hst]
    have hexec : (execOp a.eval o).run P W = .ok .skip (W.setCells b' (o' + i * en.sz + off) (a.eval y).cells.toList) := by
      simp [execOp, ho, Instr.storeAt, Instr.sureAddr, hx2, hrun]
    obtain ⟨k1, k2, k3, k4, k5, k6⟩ := setCells_row b' (a.eval y).cells.toList (o' + i * en.sz + off) c W g3 (by omega)
    have elr := g6.get hel
    have e1 : (((lay c (o' + i * en.sz + off) (a.eval y).cells.toList).drop o').take (en.l.length * en.sz)) =
        ((c.drop o').take (en.l.length * en.sz)).take (i * en.sz) ++ lay ((((c.drop o').take (en.l.length * en.sz)).drop (i * en.sz)).take en.sz) off (a.eval y).cells.toList ++ ((c.drop o').take (en.l.length * en.sz)).drop ((i + 1) * en.sz) := by
      exact lay_elem (by omega) hseg (by omega)
    have r2 := r1.write (id := q) (e := en) hq (W' := W.setCells b' (o' + i * en.sz + off) (a.eval y).cells.toList) (b := b') (off := o') (cap := c') (l' := en.l.set i (mkEl el (layP el.cells off p.cells))) hz g1 hx1
      (by simp) hf g5 k1 k2 k3 k4 k5 k6 (by rw [lay_length (by omega)]; exact g4) (by
        rw [List.length_set, e1]
        refine g6.set hi ?_ ?_
        · exact elr.1.layEl hpC (by omega)
        · have : (((((c.drop o').take (en.l.length * en.sz)).drop (i * en.sz)).take en.sz)).length = en.sz := by simp only [List.length_take, List.length_drop] at *; omega
          rw [lay_length (by rw [this]; omega), this])
    exact ⟨_, _, hexec, r2⟩

theorem snd_stt (r : RelAt C n F s a W hdr ow) {x y : Operand} {x' y' : Opd} {t t1 t2 : TypeId} {q i off : Nat} {u : AV} {p el : PV} {H1 : Heap} {en : Ent} (ho : o.op = .store t x y) (hk : knownT P t = true) (hx : opd P t1 x = some x') (hy : opd P t2 y = some y')
    (hu : ev s.env x' = some (.ptr q i off)) (hv : ev s.env y' = some u) {qq : Bool} (hp : tov qq s.heap u = some (p, H1)) (hq : find H1 q = some en) (hel : en.l[i]? = some el) (hf : en.fro = false) (hpc : p.cells.length = szT P t)
    (hoff : off + szT P t ≤ el.cells.length) (hec : el.cells.length = en.sz) (hz : en.sz ≠ 0) :
    Snd P C n F s a W id o .u (setIn H1 q { en with l := en.l.set i (mkEl el (layP el.cells off p.cells)) }) := by
  obtain ⟨W', ow', h1, h2⟩ := stt_core r ho hk hx hy hu hv hp hq hel hf hpc hoff hec hz
  exact ⟨undef, _, _, _, .inr ⟨h1, rfl⟩, h2.monoF fun i h => .inl h, by simp [RepA], by simp [AV.men]⟩

theorem men_ptr {i : Nat} (j : Nat) (h : (AV.ptr id 0 0).men j) : F j ∨ j = id := .inr (by simpa [AV.men] using h.symm)
theorem men_h (j : Nat) (h : (AV.h id).men j) : F j ∨ j = id := .inr (by simpa [AV.men] using h.symm)

theorem repA_newPtr {W' : World} {ok : Nat → Prop} {H : Heap} {e : Ent} {b l c : Nat} : RepA W' ok (upd hdr id (.slice (some ⟨b, 0, none⟩) l c)) ((id, e) :: H) (.ptr id 0 0) (.pointer (some ⟨b, 0, none⟩)) := by
  simp only [RepA]
  intro e' _
  exact ⟨b, 0, l, c, by simp [upd], by simp⟩

theorem snd_box (r : RelAt C n F s a W hdr ow) (hid : ¬ F id) {y : Operand} {y' : Opd} {t t2 : TypeId} {u : AV} {p : PV} {H1 : Heap} (ho : o.op = .box t y) (hy : opd P t2 y = some y')
    (hv : ev s.env y' = some u) {qq : Bool} (hp : tov qq s.heap u = some (p, H1)) (hz : p.cells.length ≠ 0) : Snd P C n F s a W id o (.ptr id 0 0) ((id, ⟨false, p.cells.length, [p]⟩) :: H1) := by
  have hvy := (opd_ok r hy hv).1
  obtain ⟨ow1, r1, hpv, hok1, hh⟩ := tov_ok r hvy hp
  have hpC := hpv.toC
  have hpl : (a.eval y).cells.toList.length = p.cells.length := by
    have := (hpC.cells).1.length; rw [Nat.mul_one] at this; exact this
  have r2 := r1.alloc (id := id) (sz := p.cells.length) (cap := 1) (l := [p]) (c := (a.eval y).cells.toList) hid t hz (by omega) (by simp) (by
    rw [List.take_of_length_le (by rw [hpl, List.length_singleton, Nat.one_mul]; exact Nat.le_refl _), ← hpl]; exact RepL.one hpC)
  refine ⟨.pointer (some ⟨W.heap.size, 0, none⟩), _, _, _, .inl ?_, r2, repA_newPtr, fun j => men_ptr (i := 0) j⟩
  simp [execOp, ho, Instr.box, newVar, newRow]

theorem zeroP_ok {ok : Nat → Prop} {t : TypeId} {z : List PV} (h : zeroP P t = some z) : ∃ i v, P.info? t = some i ∧ i.zero = some v ∧ RepL W ok 1 z v.cells.toList ∧ (∀ p ∈ z, p.isSt = false) ∧ z.length = v.cells.size := by
  unfold zeroP at h
  split at h
  · rename_i i hi
    split at h
    · rename_i v hv
      obtain ⟨g1, g2⟩ := mapO_consts (W := W) (ok := ok) h
      refine ⟨i, v, hi, hv, g1, g2, ?_⟩
      have := g1.length
      rw [Nat.mul_one, Array.length_toList] at this; exact this.symm
    · cases h
  · cases h

theorem run_zero {t : TypeId} {i : TypeInfo} {v : Value} (hi : P.info? t = some i) (hv : i.zero = some v) (w : World) : (zeroValue t).run P w = .ok v w := by
  simp [zeroValue, typeInfo, hi, hv]

theorem zOf_ok {ok : Nat → Prop} {agg : Bool} {z : List PV} {vs : List Value} (r : RepL W ok 1 z vs) (hs : ∀ p ∈ z, p.isSt = false) (h : agg = true ∨ z.length = 1) : RepC W ok (zOf agg z) vs ∧ (zOf agg z).cells.length = z.length := by
  unfold zOf
  by_cases ha : agg = true
  · rw [if_pos ha]; exact ⟨.st hs r, rfl⟩
  · rw [if_neg ha]
    have hl := h.resolve_left ha
    match z, hl with
    | [x], _ =>
      cases r with
      | cons g1 g2 g3 =>
        cases g3
        refine ⟨by simpa using g2, ?_⟩
        have := hs x (by simp)
        cases x <;> simp at *

theorem snd_alloc (r : RelAt C n F s a W hdr ow) (hid : ¬ F id) {t : TypeId} {agg : Bool} {z : List PV} (ho : o.op = .alloc t) (hz : zeroP P t = some z) (ha : agg = true ∨ z.length = 1) (hz0 : z.length ≠ 0) :
    Snd P C n F s a W id o (.ptr id 0 0) ((id, ⟨false, z.length, [zOf agg z]⟩) :: s.heap) := by
  obtain ⟨i, v, hi, hv, g1, g2, g3⟩ := zeroP_ok (W := W) (ok := OK C W s.heap ow) hz
  obtain ⟨k1, k2⟩ := zOf_ok g1 g2 ha
  have hl : v.cells.toList.length = z.length := by rw [Array.length_toList, g3]
  have r2 := r.alloc (id := id) (sz := z.length) (cap := 1) (l := [zOf agg z]) (c := v.cells.toList) hid t hz0 (by omega) (by simp) (by
    rw [List.take_of_length_le (by rw [hl, List.length_singleton, Nat.one_mul]; exact Nat.le_refl _), ← hl]; exact RepL.one k1)
  refine ⟨.pointer (some ⟨W.heap.size, 0, none⟩), _, _, _, .inl ?_, r2, repA_newPtr, fun j => men_ptr (i := 0) j⟩
  simp [execOp, ho, Instr.alloc, run_zero hi hv, newVar, newRow]

/-- The parts of an aggregate. -/
theorem buildP_ok {qq : Bool} {place : Nat → Option (Nat × Nat)} {g : Nat × Operand → Option (Nat × Nat × Opd)} (hg : ∀ i x off sz y, g (i, x) = some (off, sz, y) → place i = some (off, sz) ∧ ∃ t, opd P t x = some y) :
    ∀ (xs : List (Nat × Operand)) (ps : List (Nat × Nat × Opd)) (s : St) (ow : Nat → Option Nat) (cs cs' : List PV) (cells : Array Value) (H' : Heap), RelAt C n F s a W hdr ow → mapO g xs = some ps →
      RepL W (OK C W s.heap ow) 1 cs cells.toList → (∀ p ∈ cs, p.isSt = false) → buildP qq s.env cs s.heap ps = some (cs', H') →
      ∃ cells' ow', Instr.fill place cells (xs.map fun q => (q.1, a.eval q.2)) = some cells' ∧ RelAt C n F { s with heap := H' } a W hdr ow' ∧ RepL W (OK C W H' ow') 1 cs' cells'.toList ∧ ∀ p ∈ cs', p.isSt = false
  | [], ps, s, ow, cs, cs', cells, H', r, hm, hr, hs, hb => by
    simp [mapO] at hm; subst hm
    simp [buildP] at hb
    obtain ⟨rfl, rfl⟩ := hb
    exact ⟨cells, ow, rfl, r, hr, hs⟩
  | (i, x) :: xs, ps, s, ow, cs, cs', cells, H', r, hm, hr, hs, hb => by
    simp only [mapO] at hm
    split at hm
    · rename_i y ys h1 h2
      cases hm
      obtain ⟨off, sz, y⟩ := y
      obtain ⟨hp, t, ht⟩ := hg i x off sz y h1
      simp only [buildP] at hb
      split at hb
      · rename_i p H1 hpe
        obtain ⟨u, hu, hpe⟩ := Option.bind_eq_some_iff.1 hpe
        split at hb
        · rename_i hc
          obtain ⟨ow1, r1, hpv, hok1, _⟩ := tov_ok r (opd_ok r ht hu).1 hpe
          have hpC := hpv.toC
          obtain ⟨q1, q2⟩ := hpC.cells
          have hpl : (a.eval x).cells.size = sz := by
            have := q1.length; rw [Nat.mul_one, Array.length_toList] at this; omega
          have hcl : cells.size = cs.length := by
            have := hr.length; rw [Nat.mul_one, Array.length_toList] at this; exact this
          have hr1 := (hr.mono fun b hb => ⟨hok1 b hb, rfl⟩).lay (off := off) q1
          have hfl := fold_lay' off (a.eval x).cells cells (by omega)
          rw [← hfl] at hr1
          obtain ⟨cells', ow', k1, k2, k3, k4⟩ := buildP_ok hg xs ys { s with heap := H1 } ow1 _ cs' _ H' r1 h2 hr1 (layP_mem hs q2) hb
          refine ⟨cells', ow', ?_, k2, k3, k4⟩
          simp only [List.map_cons, Instr.fill, hp]
          rw [if_neg (by simp [hpl]; omega)]
          exact k1
        · cases hb
      · cases hb
    · cases hm

/-- The elements of a row. -/
theorem buildL_ok {qq : Bool} {sz : Nat} {g : Nat × Operand → Option (Nat × Opd)} (hg : ∀ i x j y, g (i, x) = some (j, y) → j = i ∧ ∃ t, opd P t x = some y) :
    ∀ (xs : List (Nat × Operand)) (ps : List (Nat × Opd)) (s : St) (ow : Nat → Option Nat) (cs cs' : List PV) (cells : Array Value) (H' : Heap), RelAt C n F s a W hdr ow → mapO g xs = some ps →
      RepL W (OK C W s.heap ow) sz cs cells.toList → buildL qq s.env sz cs s.heap ps = some (cs', H') →
      ∃ cells' ow', Instr.fill (fun i => some (i * sz, sz)) cells (xs.map fun q => (q.1, a.eval q.2)) = some cells' ∧ RelAt C n F { s with heap := H' } a W hdr ow' ∧ RepL W (OK C W H' ow') sz cs' cells'.toList ∧ cs'.length = cs.length
  | [], ps, s, ow, cs, cs', cells, H', r, hm, hr, hb => by
    simp [mapO] at hm; subst hm
    simp [buildL] at hb
    obtain ⟨rfl, rfl⟩ := hb
    exact ⟨cells, ow, rfl, r, hr, rfl⟩
  | (i, x) :: xs, ps, s, ow, cs, cs', cells, H', r, hm, hr, hb => by
    simp only [mapO] at hm
    split at hm
    · rename_i y ys h1 h2
      cases hm
      obtain ⟨j, y⟩ := y
      obtain ⟨rfl, t, ht⟩ := hg i x j y h1
      simp only [buildL] at hb
      split at hb
      · rename_i p H1 hpe
        obtain ⟨u, hu, hpe⟩ := Option.bind_eq_some_iff.1 hpe
        split at hb
        · rename_i hc
          obtain ⟨ow1, r1, hpv, hok1, _⟩ := tov_ok r (opd_ok r ht hu).1 hpe
          have hpC := hpv.toC
          have hpl : (a.eval x).cells.toList.length = sz := by
            have := (hpC.cells).1.length; rw [Nat.mul_one] at this; omega
          have hcl : cells.size = cs.length * sz := by
            have := hr.length; rw [Array.length_toList] at this; exact this
          have hseg : (j + 1) * sz ≤ cs.length * sz := Nat.mul_le_mul_right _ (by omega)
          have hm' : (j + 1) * sz = j * sz + sz := by rw [Nat.add_mul, Nat.one_mul]
          have hr1 := (hr.mono fun b hb => ⟨hok1 b hb, rfl⟩).set hc.2 hpC hpl
          have hsz : (a.eval x).cells.size = sz := by rw [← Array.length_toList]; exact hpl
          have hfl := fold_lay' (j * sz) (a.eval x).cells cells (by omega)
          have e2 : lay cells.toList (j * sz) (a.eval x).cells.toList = cells.toList.take (j * sz) ++ (a.eval x).cells.toList ++ cells.toList.drop ((j + 1) * sz) := by
            unfold lay; rw [hpl, hm']
          rw [← e2, ← hfl] at hr1
          obtain ⟨cells', ow', k1, k2, k3, k4⟩ := buildL_ok hg xs ys { s with heap := H1 } ow1 _ cs' _ H' r1 h2 hr1 hb
          refine ⟨cells', ow', ?_, k2, k3, by simpa using k4⟩
          simp only [List.map_cons, Instr.fill]
          rw [if_neg (by simp [hsz]; omega)]
          exact k1
        · cases hb
      · cases hb
    · cases hm

theorem snd_build {qq : Bool} (r : RelAt C n F s a W hdr ow) {t : TypeId} {xs : Array (Nat × Operand)} {ps : List (Nat × Nat × Opd)} {z cs : List PV} {H' : Heap} {place : Nat → Option (Nat × Nat)} {g : Nat × Operand → Option (Nat × Nat × Opd)}
    (ho : o.op = .build t xs) (hz : zeroP P t = some z) (hg : ∀ i x off sz y, g (i, x) = some (off, sz, y) → place i = some (off, sz) ∧ ∃ t, opd P t x = some y) (hm : mapO g xs.toList = some ps) (hb : buildP qq s.env z s.heap ps = some (cs, H'))
    (hrun : ∀ (v : Value) (i : TypeInfo) (cells : Array Value), P.info? t = some i → i.zero = some v → Instr.fill place v.cells (xs.toList.map fun q => (q.1, a.eval q.2)) = some cells → (execOp a.eval o).run P W = .ok (.value (.agg cells)) W) :
    Snd P C n F s a W id o (.v (.st cs)) H' := by
  obtain ⟨i, v, hi, hv, g1, g2, g3⟩ := zeroP_ok (W := W) (ok := OK C W s.heap ow) hz
  obtain ⟨cells, ow', k1, k2, k3, k4⟩ := buildP_ok hg xs.toList ps s ow z cs v.cells H' r hm g1 g2 hb
  refine ⟨.agg cells, W, hdr, ow', .inl (hrun v i cells hi hv k1), k2.monoF fun i h => .inl h, ?_, by simp [AV.men]⟩
  simp only [RepA]
  have := RepV.st k3 k4
  simpa using this

/-- A row becomes an element of a row of rows. -/
theorem sttN_core (r : RelAt C n F s a W hdr ow) {x y : Operand} {x' y' : Opd} {t t1 t2 : TypeId} {k off cc : Nat} {e ec : Ent} {g : PV} {rest : List PV} {rf : Option (Nat × Nat)} (ho : o.op = .store t x y) (hk : knownT P t = true) (hsz : szT P t = 1) (hx : opd P t1 x = some x') (hy : opd P t2 y = some y')
    (hu : ev s.env x' = some (.ptr k 0 off)) (hv : ev s.env y' = some (.h cc)) (hq : find s.heap k = some e) (hc : find s.heap cc = some ec) (hf : e.fro = false) (hz : e.sz = 0) (hzc : ec.sz ≠ 0) (hl : e.l = g :: rest) (hrf : decR g = some rf) (hlt : off < rest.length)
    (hold : ∀ i c, rf = some (i, c) → i = off) :
    ∃ W', (execOp a.eval o).run P W = .ok .skip W' ∧ RelAt C n F { s with heap := setIn s.heap k ⟨false, 0, encR off cc :: rest⟩ } a W' hdr ow := by
  have hux := (opd_ok r hx hu).1
  have hvy := (opd_ok r hy hv).1
  have hmc := (opd_ok r hy hv).2 cc (by simp [AV.men])
  simp only [RepA] at hvy
  have hvy := hvy ec hc
  have hsl : ∃ a m n, hdr cc = .slice a m n := by
    rcases (r.mem.ent cc ec hc).plain hzc with ⟨_, h2, _⟩ | ⟨_, _, ao, h3⟩ | ⟨_, b, off, cap, c, _, h2, _⟩
    · rcases h2.slInv with ⟨_, ao, h⟩ | ⟨b, off, cap, c, h, _⟩
      · simp at h; exact ⟨_, _, _, h⟩
      · simp at h; exact ⟨_, _, _, h⟩
    · exact ⟨_, _, _, h3⟩
    · exact ⟨_, _, _, h2⟩
  obtain ⟨p, hp⟩ : ∃ p, rest[off]? = some p := ⟨_, List.getElem?_eq_getElem hlt⟩
  obtain ⟨b, o', cap, c, w, h1, h2, h3, h4, h5, h6, h7, h8, h9⟩ := nest_at r hux hq hz hf hl hrf hp
  have hcells : (a.eval y).cells.toList = [hdr cc] := by
    obtain ⟨a1, m1, n1, e1⟩ := hsl
    rw [hvy, e1]; rfl
  have hone : ∀ v ∈ [hdr cc], v.oneCell' = true := by
    obtain ⟨a1, m1, n1, e1⟩ := hsl
    intro v hv; simp at hv; subst hv; rw [e1]; rfl
  have hrun : (storeVar t ⟨b, o' + off, none⟩ (a.eval y)).run P W = .ok () (W.setCells b (o' + off) [hdr cc]) := by
    have hst := run_storeCells_cells (P := P) b (o' + off) [hdr cc] 0 W
      (by intro j hj; simp at hj; subst hj; rw [cell_row (rowO_row h3)]; simp [h7])
      (by intro j hj; exact rowO_frozen h3 _) hone
    rw [Nat.add_zero] at hst
    have hsz2 : (a.eval y).cells.size = szT P t := by rw [← Array.length_toList, hcells, hsz]; rfl
    simp [storeVar, run_sizeOf hk, hsz2, hcells, hst]
  have hexec : (execOp a.eval o).run P W = .ok .skip (W.setCells b (o' + off) [hdr cc]) := by
    simp [execOp, ho, Instr.storeAt, Instr.sureAddr, h6, hrun]
  have hcl : o' + off < c.length := by omega
  obtain ⟨k1, k2, k3, k4, k5, k6⟩ := setCells_row b [hdr cc] (o' + off) c W h3 (by simp; omega)
  have r2 := r.writeE (e' := ⟨false, 0, encR off cc :: rest⟩) hq h1 hz.symm k2 k3 k4 k5 k6 (.inr ⟨rfl, rfl, encR off cc, rest, some (off, cc), rfl, by simp [decR], .inr ⟨b, o', cap, lay c (o' + off) [hdr cc], rfl, h2, k1, by rw [lay_length (by simp; omega)]; exact h4, h5, ?_⟩⟩)
    (by intro c' hc'; simp [Ent.ref, decR] at hc'; subst hc'; exact hmc)
  · exact ⟨_, hexec, r2⟩
  · refine ⟨by rw [List.length_take, List.length_drop, lay_length (by simp; omega)]; omega, ?_⟩
    intro j p' v' hj hv'
    have hjl : j < rest.length := (List.getElem?_eq_some_iff.1 hj).1
    rw [List.getElem?_take, if_pos hjl, List.getElem?_drop, lay_get (by simp; omega)] at hv'
    by_cases hjo : j = off
    · subst hjo
      rw [if_neg (by omega), if_pos (by simp), Nat.sub_self] at hv'
      simp at hv'
      subst hv'
      refine ⟨fun i c1 h _ => ?_, fun h => absurd rfl (h j cc rfl)⟩
      simp at h; rw [← h.2]; exact ⟨rfl, hsl⟩
    · refine ⟨fun i c1 h h' => ?_, fun _ => ?_⟩
      · simp at h; exact absurd (h'.trans h.1.symm) hjo
      · have hv2 : ((c.drop o').take rest.length)[j]? = some v' := by
          rw [List.getElem?_take, if_pos hjl, List.getElem?_drop]
          by_cases h' : o' + j < o' + off
          · rw [if_pos h'] at hv'; exact hv'
          · rw [if_neg h', if_neg (by simp; omega)] at hv'; exact hv'
        refine ((h8.2 j p' v' hj hv2).2 fun i c1 h => by rw [hold i c1 h]; exact hjo).mono fun b' hb' => ⟨hb', k2 b' ?_⟩
        rintro rfl; exact hb'.2 ⟨k, e, hq, h1⟩

end
end Go.AM

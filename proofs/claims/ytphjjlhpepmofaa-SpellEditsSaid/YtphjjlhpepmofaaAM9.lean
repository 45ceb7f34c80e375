/- The operations that write memory or make rows. -/
import Derived.Test.YtphjjlhpepmofaaAM8
import Derived.Deep.Upon
set_option linter.all false
namespace Go.AM
open Go

section
variable {P : Program} {C : Cx} {n : Nat} {F : Nat → Prop} {s : St} {a : Act} {W : World} {hdr : Nat → Value} {ow : Nat → Option Nat} {id : Nat} {o : Oper}

/-- A row that is owned becomes another one, in the same block. -/
theorem RelAt.turn (r : RelAt C n F s a W hdr ow) {k : Nat} {e : Ent} (he : find s.heap k = some e) (hid : ¬ F id) {e' : Ent} {x' : Value} {W' : World}
    (h2 : ∀ j, ow k ≠ some j → W'.heap[j]? = W.heap[j]?) (h3 : W'.heap.size = W.heap.size) (h4 : W'.os = W.os) (h5 : W'.tape = W.tape) (h6 : W'.output = W.output)
    (hE : RepE3 W' (OK C W s.heap ow) e' x' (ow k)) (hz' : e'.sz ≠ 0) :
    RelAt C n (fun i => F i ∨ i = id) { s with heap := (id, e') :: strike s.heap k } a W' (upd hdr id x') (upd ow id (ow k)) := by
  have hn := r.fresh hid
  have hki : k ≠ id := by rintro rfl; rw [hn] at he; cases he
  have hf : ∀ j y, find ((id, e') :: strike s.heap k) j = some y → (j = id ∧ y = e') ∨ (j ≠ id ∧ j ≠ k ∧ find s.heap j = some y) := by
    intro j y h
    rw [find_cons] at h
    by_cases hj : j = id
    · rw [if_pos hj] at h; cases h; exact .inl ⟨hj, rfl⟩
    · rw [if_neg hj, find_strike] at h
      by_cases hj2 : j = k
      · rw [if_pos hj2] at h; cases h
      · rw [if_neg hj2] at h; exact .inr ⟨hj, hj2, h⟩
  have hok : ∀ b, OK C W s.heap ow b → OK C W' ((id, e') :: strike s.heap k) (upd ow id (ow k)) b ∧ W'.heap[b]? = W.heap[b]? := by
    rintro b ⟨g1, g2⟩
    refine ⟨⟨by rw [h3]; exact g1, ?_⟩, h2 b fun hb => g2 ⟨k, e, he, hb⟩⟩
    rintro ⟨j, y, hj, ho⟩
    rcases hf j y hj with ⟨rfl, rfl⟩ | ⟨hne, hnk, hj⟩
    · simp only [upd, if_pos] at ho; exact g2 ⟨k, e, he, ho⟩
    · rw [upd, if_neg hne] at ho; exact g2 ⟨j, y, hj, ho⟩
  refine r.rebuild (m := s.nx) ⟨?_, ?_, ?_, ?_, ?_, h4.trans r.mem.os, h5.trans r.mem.tape, h6.trans r.mem.output⟩ hok ?_ ?_ (fun i h => .inl h) ?_
  · intro j y hj
    rcases hf j y hj with ⟨rfl, rfl⟩ | ⟨hne, hnk, hj⟩
    · simp only [upd, if_pos]; exact .inl ⟨fun h => absurd h hz', hE.mono (fun b hb => ⟨(hok b hb).1, rfl⟩) (fun _ _ => rfl)⟩
    · rw [upd, upd, if_neg hne, if_neg hne]
      refine (r.mem.ent j y hj).mono hok (fun b hb => h2 b fun hk => ?_) (fun c hc => by rw [upd, if_neg (fun h => hid (by rw [← h]; exact r.idsR j y c hj hc))])
      exact hnk (r.mem.inj j k y e b hj he hb hk)
  · intro j j' y y' b hj hj' hb hb'
    rcases hf j y hj with ⟨rfl, rfl⟩ | ⟨hne, hnk, hj⟩ <;> rcases hf j' y' hj' with ⟨rfl, rfl⟩ | ⟨hne', hnk', hj'⟩
    · rfl
    · simp only [upd, if_pos] at hb; rw [upd, if_neg hne'] at hb'; exact (hnk' (r.mem.inj j' k y' e b hj' he hb' hb)).elim
    · simp only [upd, if_pos] at hb'; rw [upd, if_neg hne] at hb; exact (hnk (r.mem.inj j k y e b ‹find s.heap j = some y› he hb hb')).elim
    · rw [upd, if_neg hne] at hb; rw [upd, if_neg hne'] at hb'; exact r.mem.inj j j' y y' b hj hj' hb hb'
  · intro j y b hj hb
    rw [h3]
    rcases hf j y hj with ⟨rfl, rfl⟩ | ⟨hne, hnk, hj⟩
    · simp only [upd, if_pos] at hb; exact r.mem.lt k e b he hb
    · rw [upd, if_neg hne] at hb; exact r.mem.lt j y b hj hb
  · rw [h3]; exact r.mem.size
  · intro b hb ho
    rw [h2 b ?_]
    · exact r.mem.frame b hb ho
    · intro hk
      rcases (r.mem.lt k e b he hk).2 with h | h
      · exact ho h
      · omega
  · intro j hj y hy
    rcases hf j y hy with ⟨rfl, rfl⟩ | ⟨hne, hnk, hy⟩
    · exact (hid hj).elim
    · exact ⟨y, hy, by rw [upd, if_neg hne], rfl⟩
  · intro j y hy
    rcases hf j y hy with ⟨rfl, rfl⟩ | ⟨hne, hnk, hy⟩
    · exact .inr rfl
    · exact .inl (r.idsH j y hy)
  · intro j y c hy hc
    rcases hf j y hy with ⟨rfl, rfl⟩ | ⟨hne, hnk, hy⟩
    · rw [Ent.ref_none hz'] at hc; cases hc
    · exact .inl (r.idsR j y c hy hc)

/-- A row as it lies, its elements shared. -/
def RowAt (W : World) (ok : Nat → Prop) (sz : Nat) (l : List PV) (v : Value) : Prop :=
  (l = [] ∧ ∃ ao, v = .slice ao 0 0) ∨ ∃ b off cap c, v = .slice (some ⟨b, off, none⟩) l.length cap ∧ b < W.heap.size ∧ World.row W b c ∧ off + cap * sz ≤ c.length ∧ l.length ≤ cap ∧
    RepL W ok sz l ((c.drop off).take (l.length * sz))

theorem RepC.rowAt {ok : Nat → Prop} {sz : Nat} {l : List PV} {v : Value} (h : ∀ b, ok b → b < W.heap.size) (r : RepC W ok (.sl sz l) [v]) : RowAt W ok sz l v := by
  rcases r.slInv with ⟨h1, ao, h2⟩ | ⟨b, off, cap, c, h1, h2, h3, h4, h5, h6⟩
  · simp at h2; exact .inl ⟨h1, ao, h2⟩
  · simp at h1; exact .inr ⟨b, off, cap, c, h1, h b h2, h3, h4, h5, h6⟩

theorem rdRow_at (r : RelAt C n F s a W hdr ow) {x : AV} {v : Value} {sz : Nat} {l : List PV} (hx : RepA W (OK C W s.heap ow) hdr s.heap x v) (h : rdRow s.heap x = some (sz, l)) : RowAt W (OK C W s.heap ow) sz l v := by
  cases x with
  | v p =>
    cases p with
    | sl sz' l' =>
      simp only [rdRow, Option.some.injEq, Prod.mk.injEq] at h
      obtain ⟨rfl, rfl⟩ := h
      simp only [RepA] at hx
      exact hx.slInv.rowAt fun b hb => hb.1.2
    | _ => simp [rdRow] at h
  | h id =>
    obtain ⟨e, he, hz, rfl, rfl⟩ := rdRow_h h
    simp only [RepA] at hx
    rw [hx e he]
    rcases (r.mem.ent id e he).plain hz with ⟨_, g2, _⟩ | ⟨g1, _, ao, g2⟩ | ⟨_, b, off, cap, c, g1, g2, ⟨t, g3⟩, g4, g5, g6⟩
    · exact g2.rowAt fun b hb => hb.1.2
    · exact .inl ⟨g1, ao, g2⟩
    · exact .inr ⟨b, off, cap, c, g2, (r.mem.lt id e b he g1).1, ⟨t, _, g3⟩, g4, g5, g6⟩
  | _ => simp [rdRow] at h

theorem RepL.ones {ok : Nat → Prop} {sz : Nat} {l : List PV} {vs : List Value} (r : RepL W ok sz l vs) : ∀ v ∈ vs, v.oneCell' = true := by
  induction l generalizing vs with
  | nil => cases r; simp
  | cons p l ih =>
    cases r with
    | cons h1 r0 r =>
      intro v hv
      rcases List.mem_append.1 hv with hv | hv
      · obtain ⟨g1, g2⟩ := r0.cells
        exact g1.oneCell g2 v hv
      · exact ih r v hv

/-- What an append takes in. -/
theorem RowAt.src {ok : Nat → Prop} {sz : Nat} {l : List PV} {v : Value} {tx e' : TypeId} (h : RowAt W ok sz l v) (hk : P.underlying tx = some (.slice e')) :
    ∃ news, Src P sz tx v l.length news W ∧ RepL W ok sz l news := by
  rcases h with ⟨rfl, ao, rfl⟩ | ⟨b, off, cap, c, rfl, h1, h2, h3, h4, h5⟩
  · refine ⟨[], ?_, .nil⟩
    cases ao with
    | none => exact Src.ofNil W hk 0
    | some ad => exact Src.ofSlice W hk ad 0 0 [] (by simp) (by simp) (by simp)
  · have hlen := h5.length
    refine ⟨_, Src.ofSlice W hk ⟨b, off, none⟩ l.length cap _ hlen ?_ h5.ones, h5⟩
    intro j u hj
    rw [add_lit, cell_row h2]
    rw [List.getElem?_take] at hj
    split at hj
    · rw [List.getElem?_drop] at hj; exact hj
    · cases hj

theorem growBy_le (need : Nat) : ∀ (k c : Nat), c < need → Builtin.growBy need k c ≤ 2 * need + 1000
  | 0, c, h => by simp [Builtin.growBy]; omega
  | k + 1, c, h => by
    unfold Builtin.growBy
    rw [if_neg (by omega)]
    by_cases h2 : c + (c + 768) / 4 < need
    · exact growBy_le need k _ h2
    · have : Builtin.growBy need k (c + (c + 768) / 4) = c + (c + 768) / 4 := by
        cases k with
        | zero => rfl
        | succ k => unfold Builtin.growBy; rw [if_pos (by omega)]
      rw [this]; omega

theorem nextcap_le {need cap : Nat} (h : cap < need) : Builtin.nextslicecap need cap ≤ 2 * need + 1000 := by
  unfold Builtin.nextslicecap
  split
  · omega
  · split
    · omega
    · exact growBy_le need 4 cap h

theorem grownCap_ge (w : World) (need old : Nat) (e : TypeId) : need ≤ grownCap w need old e := by
  show need ≤ need + _ % _
  exact Nat.le_add_right _ _

theorem RelAt.getOwn (r : RelAt C n F s a W hdr ow) {k : Nat} {e : Ent} (he : find s.heap k = some e) (hf : e.fro = false) (hz : e.sz ≠ 0) :
    (e.l = [] ∧ ow k = none ∧ ∃ ao, hdr k = .slice ao 0 0) ∨ ∃ b off cap c, ow k = some b ∧ hdr k = .slice (some ⟨b, off, none⟩) e.l.length cap ∧ World.rowO W b c ∧ off + cap * e.sz ≤ c.length ∧ e.l.length ≤ cap ∧
      RepL W (OK C W s.heap ow) e.sz e.l ((c.drop off).take (e.l.length * e.sz)) := by
  rcases (r.mem.ent k e he).plain hz with ⟨h1, _⟩ | h | ⟨_, h⟩
  · rw [hf] at h1; cases h1
  · exact .inl h
  · exact .inr h

theorem rowO_row {b : Nat} {c : List Value} (h : World.rowO W b c) : World.row W b c := by obtain ⟨t, h⟩ := h; exact ⟨t, _, h⟩

theorem rowO_frozen {b : Nat} {c : List Value} (h : World.rowO W b c) (j : Nat) : W.frozen? ⟨b, j, none⟩ = false := by
  obtain ⟨t, h⟩ := h; exact frozen_of_row W b j c.toArray t h

theorem zeroCells_size (zero : Array Value) (m : Nat) : (Builtin.zeroCells zero m).size = m * zero.size := by simp [Builtin.zeroCells]

theorem OK.strike {H : Heap} {k b : Nat} (h : OK C W H ow b) : OK C W (strike H k) ow b := by
  obtain ⟨g1, g2⟩ := h
  refine ⟨g1, ?_⟩
  rintro ⟨j, q, hj, hq⟩
  rw [find_strike] at hj
  split at hj
  · cases hj
  · exact g2 ⟨j, q, hj, hq⟩

theorem snd_app (r : RelAt C n F s a W hdr ow) (hid : ¬ F id) {as : Array Operand} {ts : Array TypeId} {x y : Operand} {x' y' : Opd} {t tx e e2 t1 t2 : TypeId} {i : TypeInfo} {k : Nat} {en : Ent} {u : AV} {ys : List PV}
    (ho : o.op = .call { callee := .builtin .append, args := as, argTypes := ts }) (ha : as.toList = [x, y]) (hts : ts.toList = [t, tx]) (ht : P.underlying t = some (.slice e)) (htx : P.underlying tx = some (.slice e2))
    (hi : P.info? e = some i) (hz : (i.zero.map fun z => z.cells.size) = some i.size) (hbn : i.bytes ≠ 0) (hx : opd P t1 x = some x') (hy : opd P t2 y = some y') (hu : ev s.env x' = some (.h k)) (hv : ev s.env y' = some u) (he : find s.heap k = some en) (hr : rdRow s.heap u = some (i.size, ys))
    (hf : en.fro = false) (hsz : en.sz = i.size) (hb : (en.l.length + ys.length + 1000) * i.bytes ≤ 70368744177664) (hz0 : i.size ≠ 0) :
    Snd P C n F s a W id o (.h id) ((id, ⟨false, i.size, en.l ++ ys⟩) :: AM.strike s.heap k) := by
  obtain rfl : as = #[x, y] := Array.toList_inj.1 (by simpa using ha)
  obtain rfl : ts = #[t, tx] := Array.toList_inj.1 (by simpa using hts)
  obtain ⟨z, hz, hzc⟩ := Option.map_eq_some_iff.1 hz
  have hb2 : en.l.length + ys.length ≤ 70368744177664 := by
    have := Nat.le_mul_of_pos_right (en.l.length + ys.length + 1000) (Nat.pos_of_ne_zero hbn)
    omega
  have hux := (opd_ok r hx hu).1
  simp only [RepA] at hux
  have hux := hux en he
  have hvy := (opd_ok r hy hv).1
  obtain ⟨news, hs, hn⟩ := (rdRow_at r hvy hr).src (P := P) htx
  have hnl := hn.length
  have hexec : ∀ v W', (Builtin.append_ #[t, tx] o.type #[a.eval x, a.eval y]).run P W = .ok v W' → (execOp a.eval o).run P W = .ok (.value v) W' := by
    intro v W' h
    simp [execOp, ho, resolve, invoke, builtin, h]
  have hmen : ∀ j, (AV.h id).men j → F j ∨ j = id := fun j hj => .inr (by simpa [AV.men] using hj.symm)
  have hgrow : ∀ (base : Option Addr) (cap : Nat) (olds : List Value), a.eval x = .slice base en.l.length cap → (Builtin.firstCells i.size en.l.length (.slice base en.l.length cap)).run P W.drew = .ok olds.toArray W.drew →
      RepL W (OK C W s.heap ow) i.size en.l olds → cap < en.l.length + ys.length → Snd P C n F s a W id o (.h id) ((id, ⟨false, i.size, en.l ++ ys⟩) :: AM.strike s.heap k) := by
    intro base cap olds hax hold hro hlt
    have hnc : Builtin.nextslicecap (en.l.length + ys.length) cap * i.bytes ≤ 281474976710656 := by
      have h1 := Nat.mul_le_mul_right i.bytes (nextcap_le hlt)
      have h2 : (2 * (en.l.length + ys.length) + 1000) * i.bytes ≤ 2 * ((en.l.length + ys.length + 1000) * i.bytes) := by
        rw [← Nat.mul_assoc]; exact Nat.mul_le_mul_right _ (by omega)
      omega
    have hrun := run_append_grow_src (P := P) W t tx o.type e i z ht hi hz base en.l.length cap olds hold (a.eval y) ys.length news hs hlt (by omega) hnc
    rw [← hax] at hrun
    have hge := grownCap_ge W (en.l.length + ys.length) cap e
    generalize grownCap W (en.l.length + ys.length) cap e = gc at hge hrun
    have r1 := (r.drop k).same (W' := W.drew) ⟨rfl, rfl, rfl, rfl⟩
    have hln : (olds ++ news).length = (en.l.length + ys.length) * i.size := by
      rw [List.length_append, hro.length, hnl, Nat.add_mul]
    have hrep : RepL W.drew (OK C W.drew (AM.strike s.heap k) ow) i.size (en.l ++ ys) (olds ++ news) :=
      RepL.mono (W := W) (W' := W.drew) (ok := OK C W s.heap ow) (ok' := OK C W.drew (AM.strike s.heap k) ow) (fun b hb => ⟨OK.strike (W := W) hb, rfl⟩) (hro.append hn)
    have hlen2 : ((Builtin.zeroCells z.cells (gc - (en.l.length + ys.length))).toList).length = (gc - (en.l.length + ys.length)) * i.size := by
      rw [Array.length_toList, zeroCells_size, hzc]
    have r2 := r1.alloc (id := id) (sz := i.size) (cap := gc) (l := en.l ++ ys) (c := (olds ++ news) ++ (Builtin.zeroCells z.cells (gc - (en.l.length + ys.length))).toList) hid e hz0
      (by rw [List.length_append, hln, hlen2, ← Nat.add_mul]; exact Nat.mul_le_mul_right _ (by omega)) (by rw [List.length_append]; exact hge) (by rw [List.length_append, ← hln, List.take_left]; exact hrep)
    have e1 : ((olds ++ news) ++ (Builtin.zeroCells z.cells (gc - (en.l.length + ys.length))).toList).toArray = (olds ++ news).toArray ++ Builtin.zeroCells z.cells (gc - (en.l.length + ys.length)) := by
      apply Array.ext'; simp
    rw [e1] at r2
    refine ⟨_, _, _, _, .inl (hexec _ _ hrun), r2, ?_, hmen⟩
    simp only [RepA]
    intro e' _
    simp [upd]
  rcases r.getOwn he hf (by rw [hsz]; exact hz0) with ⟨g1, g2, ao, g3⟩ | ⟨b, off, cap, c, g1, g2, g3, g4, g5, g6⟩
  · rw [g3] at hux
    by_cases hy0 : ys = []
    · subst hy0
      have hrun := run_append_nothing (P := P) W t tx o.type e i ht hi ao 0 0 (Nat.le_refl _) (a.eval y) (by
        have hn0 : news = [] := by cases hn; rfl
        rw [← hn0]; exact hs)
      rw [← hux] at hrun
      refine ⟨_, _, _, _, .inl (hexec _ _ hrun), r.turn (e' := ⟨false, i.size, en.l ++ []⟩) (x' := .slice ao 0 0) he hid (fun _ _ => rfl) rfl rfl rfl rfl ?_ hz0, ?_, hmen⟩
      · refine .inr (.inl ⟨by simp [g1], g2, ao, rfl⟩)
      · simp only [RepA]; intro e' _; simp [upd, hux]
    · have : 0 < ys.length := List.length_pos_iff.2 hy0
      refine hgrow ao 0 [] (by rw [hux, g1]; rfl) ?_ (by rw [g1]; exact .nil) (by omega)
      rw [g1]
      cases ao with
      | none => exact run_firstCells_none W.drew _ _ _ _
      | some ad => exact run_firstCells_some W.drew _ 0 ad _ _ [] (by simp) (by simp)
  · rw [g2] at hux
    rw [hsz] at g4 g6
    have hg3 := rowO_row g3
    have hol : ((c.drop off).take (en.l.length * i.size)).length = en.l.length * i.size := g6.length
    have hcap := Nat.mul_le_mul_right i.size g5
    by_cases hroom : en.l.length + ys.length ≤ cap
    · have hroomM := Nat.mul_le_mul_right i.size hroom
      rw [Nat.add_mul] at hroomM
      have hrun := run_append_room_src (P := P) W t tx o.type e i ht hi b off en.l.length cap (a.eval y) ys.length news hs hroom
        (by
          intro j hj
          rw [cell_row hg3, List.getElem?_eq_getElem (by omega)]; rfl)
        (by intro j hj; exact rowO_frozen g3 _)
      rw [← hux] at hrun
      obtain ⟨k1, k2, k3, k4, k5, k6⟩ := setCells_row b news (off + en.l.length * i.size) c W g3 (by omega)
      refine ⟨_, _, _, _, .inl (hexec _ _ hrun), r.turn (e' := ⟨false, i.size, en.l ++ ys⟩) (x' := .slice (some ⟨b, off, none⟩) (en.l.length + ys.length) cap) he hid ?_ k3 k4 k5 k6 ?_ hz0, ?_, hmen⟩
      · intro j hj
        exact k2 j (by rintro rfl; exact hj g1)
      · refine .inr (.inr ⟨rfl, b, off, cap, _, g1, by rw [List.length_append], k1, by rw [lay_length (by omega)]; exact g4, by simpa using hroom, ?_⟩)
        have e1 : (((lay c (off + en.l.length * i.size) news).drop off).take ((en.l ++ ys).length * i.size)) = (c.drop off).take (en.l.length * i.size) ++ news := by
          rw [List.length_append, drop_lay (by omega) (by omega), Nat.add_sub_cancel_left, take_lay (by simp; omega) (by rw [Nat.add_mul]; omega)]
          unfold lay
          rw [List.take_take, Nat.min_eq_left (by rw [Nat.add_mul]; omega)]
          have : List.drop (en.l.length * i.size + news.length) (List.take ((en.l.length + ys.length) * i.size) (List.drop off c)) = [] := by
            apply List.drop_eq_nil_of_le
            rw [List.length_take, hnl, Nat.add_mul]; omega
          rw [this, List.append_nil]
        rw [e1]
        refine (g6.append hn).mono fun j hj => ⟨hj, k2 j ?_⟩
        rintro rfl
        exact hj.2 ⟨k, en, he, g1⟩
      · simp only [RepA]; intro e' _; simp [upd]
    · refine hgrow (some ⟨b, off, none⟩) cap _ hux ?_ g6 (by omega)
      refine run_firstCells_some W.drew _ _ _ _ _ _ hol ?_
      intro j v hj
      rw [World.cell?_drew, add_lit, cell_row hg3]
      rw [List.getElem?_take] at hj
      split at hj
      · rw [List.getElem?_drop] at hj; exact hj
      · cases hj

/-- A copy of a row: it is appended to nothing. -/
theorem snd_cln (r : RelAt C n F s a W hdr ow) (hid : ¬ F id) {as : Array Operand} {ts : Array TypeId} {x y : Operand} {y' : Opd} {t tx e e2 t2 : TypeId} {i : TypeInfo} {u : AV} {ys : List PV}
    (ho : o.op = .call { callee := .builtin .append, args := as, argTypes := ts }) (ha : as.toList = [x, y]) (hts : ts.toList = [t, tx]) (ht : P.underlying t = some (.slice e)) (htx : P.underlying tx = some (.slice e2))
    (hi : P.info? e = some i) (hz : (i.zero.map fun z => z.cells.size) = some i.size) (hbn : i.bytes ≠ 0) (hn : isNilC x = true) (hy : opd P t2 y = some y') (hv : ev s.env y' = some u) (hr : rdRow s.heap u = some (i.size, ys))
    (hb : (ys.length + 1000) * i.bytes ≤ 70368744177664) (hz0 : i.size ≠ 0) :
    Snd P C n F s a W id o (.h id) ((id, ⟨false, i.size, ys⟩) :: s.heap) := by
  obtain rfl : as = #[x, y] := Array.toList_inj.1 (by simpa using ha)
  obtain rfl : ts = #[t, tx] := Array.toList_inj.1 (by simpa using hts)
  obtain ⟨z, hz, hzc⟩ := Option.map_eq_some_iff.1 hz
  have hb2 : ys.length ≤ 70368744177664 := by
    have := Nat.le_mul_of_pos_right (ys.length + 1000) (Nat.pos_of_ne_zero hbn)
    omega
  have hax : a.eval x = .slice none 0 0 := by
    unfold isNilC at hn
    split at hn
    · rename_i v
      unfold isNilSlice at hn
      split at hn
      · rfl
      · cases hn
    · cases hn
  have hvy := (opd_ok r hy hv).1
  obtain ⟨news, hs, hn'⟩ := (rdRow_at r hvy hr).src (P := P) htx
  have hnl := hn'.length
  have hexec : ∀ v W', (Builtin.append_ #[t, tx] o.type #[a.eval x, a.eval y]).run P W = .ok v W' → (execOp a.eval o).run P W = .ok (.value v) W' := by
    intro v W' h
    simp [execOp, ho, resolve, invoke, builtin, h]
  have hmen : ∀ j, (AV.h id).men j → F j ∨ j = id := fun j hj => .inr (by simpa [AV.men] using hj.symm)
  by_cases hy0 : ys = []
  · subst hy0
    have hn0 : news = [] := by cases hn'; rfl
    subst hn0
    have hrun := run_append_nothing (P := P) W t tx o.type e i ht hi none 0 0 (Nat.le_refl _) (a.eval y) hs
    rw [← hax] at hrun
    refine ⟨_, _, _, _, .inl (hexec _ _ hrun), r.allocNil hid i.size none, ?_, hmen⟩
    simp only [RepA]; intro e' _; simp [upd, hax]
  · have hp : 0 < ys.length := List.length_pos_iff.2 hy0
    have hnc : Builtin.nextslicecap (0 + ys.length) 0 * i.bytes ≤ 281474976710656 := by
      have h1 := Nat.mul_le_mul_right i.bytes (nextcap_le (need := 0 + ys.length) (cap := 0) (by omega))
      have h2 : (2 * (0 + ys.length) + 1000) * i.bytes ≤ 2 * ((ys.length + 1000) * i.bytes) := by
        rw [← Nat.mul_assoc]; exact Nat.mul_le_mul_right _ (by omega)
      omega
    have hrun := run_append_grow_src (P := P) W t tx o.type e i z ht hi hz none 0 0 [] (run_firstCells_none W.drew _ _ _ _) (a.eval y) ys.length news hs (by omega) (by omega) hnc
    rw [← hax] at hrun
    have hge := grownCap_ge W (0 + ys.length) 0 e
    generalize grownCap W (0 + ys.length) 0 e = gc at hge hrun
    simp only [Nat.zero_add, List.nil_append] at hrun hge
    have r1 := r.same (W' := W.drew) ⟨rfl, rfl, rfl, rfl⟩
    have hlen2 : ((Builtin.zeroCells z.cells (gc - ys.length)).toList).length = (gc - ys.length) * i.size := by
      rw [Array.length_toList, zeroCells_size, hzc]
    have hrep : RepL W.drew (OK C W.drew s.heap ow) i.size ys news :=
      RepL.mono (W := W) (W' := W.drew) (ok := OK C W s.heap ow) (ok' := OK C W.drew s.heap ow) (fun b hb => ⟨hb, rfl⟩) hn'
    have r2 := r1.alloc (id := id) (sz := i.size) (cap := gc) (l := ys) (c := news ++ (Builtin.zeroCells z.cells (gc - ys.length)).toList) hid e hz0
      (by rw [List.length_append, hnl, hlen2, ← Nat.add_mul]; exact Nat.mul_le_mul_right _ (by omega)) hge (by rw [← hnl, List.take_left]; exact hrep)
    have e1 : (news ++ (Builtin.zeroCells z.cells (gc - ys.length)).toList).toArray = news.toArray ++ Builtin.zeroCells z.cells (gc - ys.length) := by
      apply Array.ext'; simp
    rw [e1] at r2
    refine ⟨_, _, _, _, .inl (hexec _ _ hrun), r2, ?_, hmen⟩
    simp only [RepA]
    intro e' _
    simp [upd]

end
end Go.AM

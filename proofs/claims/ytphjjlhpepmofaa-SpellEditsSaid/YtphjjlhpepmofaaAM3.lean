/- How the rows that a call owns change: made, written, given up, appended to. -/
import Derived.Test.YtphjjlhpepmofaaAM2
set_option linter.all false
namespace Go.AM
open Go

/-- The cells c with news laid over from o on. -/
def lay (c : List Value) (o : Nat) (news : List Value) : List Value := c.take o ++ news ++ c.drop (o + news.length)

theorem lay_length {c : List Value} {o : Nat} {news : List Value} (h : o + news.length ≤ c.length) : (lay c o news).length = c.length := by
  simp [lay]; omega

theorem lay_nil (c : List Value) (o : Nat) : lay c o [] = c := by simp [lay]

theorem lay_cons {c : List Value} {o : Nat} {v : Value} {news : List Value} (h : o + (v :: news).length ≤ c.length) : lay c o (v :: news) = lay (c.set o v) (o + 1) news := by
  simp only [List.length_cons] at h
  have e1 : (c.set o v).take (o + 1) = c.take o ++ [v] := by
    rw [List.take_succ_eq_append_getElem (by simp; omega), List.take_set_of_le (Nat.le_refl _)]; simp
  have e2 : (c.set o v).drop (o + 1 + news.length) = c.drop (o + (news.length + 1)) := by
    rw [List.drop_set_of_lt (by omega)]; congr 1; omega
  simp only [lay, List.length_cons, e1, e2]
  simp

theorem setCells_row (b : Nat) : ∀ (news : List Value) (o : Nat) (c : List Value) (W : World), World.rowO W b c → o + news.length ≤ c.length →
    World.rowO (W.setCells b o news) b (lay c o news) ∧ (∀ k, k ≠ b → (W.setCells b o news).heap[k]? = W.heap[k]?) ∧ (W.setCells b o news).heap.size = W.heap.size ∧
      (W.setCells b o news).os = W.os ∧ (W.setCells b o news).tape = W.tape ∧ (W.setCells b o news).output = W.output
  | [], o, c, W, h, _ => by rw [lay_nil]; exact ⟨h, fun _ _ => rfl, rfl, rfl, rfl, rfl⟩
  | v :: news, o, c, W, ⟨t, h⟩, hl => by
    have hl' : o + (news.length + 1) ≤ c.length := by simpa using hl
    have h' : World.rowO (W.setCell ⟨b, o, none⟩ v) b (c.set o v) := by
      refine ⟨t, ?_⟩
      rw [heap_setCell_same W b o c.toArray t v h]
      congr 2
      apply Array.ext'
      simp
    obtain ⟨r1, r2, r3, r4, r5, r6⟩ := setCells_row b news (o + 1) (c.set o v) (W.setCell ⟨b, o, none⟩ v) h' (by simp; omega)
    rw [lay_cons hl]
    refine ⟨r1, fun k hk => (r2 k hk).trans (heap_setCell_other W ⟨b, o, none⟩ k v hk), r3.trans (by simp), ?_, ?_, ?_⟩
    · exact r4.trans rfl
    · exact r5.trans rfl
    · exact r6.trans rfl

section
variable {C : Cx} {n : Nat} {F : Nat → Prop} {s : St} {a : Act} {W : World} {hdr : Nat → Value} {ow : Nat → Option Nat}

/-- The state behind a change of the memory. -/
theorem RelAt.rebuild {W' : World} {H' : Heap} {hdr' : Nat → Value} {ow' : Nat → Option Nat} {F' : Nat → Prop} {m : Nat} (r : RelAt C n F s a W hdr ow) (me : Mem C W' H' hdr' ow')
    (hok : ∀ b, OK C W s.heap ow b → OK C W' H' ow' b ∧ W'.heap[b]? = W.heap[b]?)
    (hh : ∀ id, F id → ∀ e', find H' id = some e' → ∃ e, find s.heap id = some e ∧ hdr' id = hdr id ∧ e'.sz = e.sz)
    (hF : ∀ id e, find H' id = some e → F' id) (hFF : ∀ id, F id → F' id) (hR : ∀ id e c, find H' id = some e → e.ref = some c → F' c) : RelAt C n F' { s with heap := H', nx := m } a W' hdr' ow' :=
  ⟨me, r.defers, r.tsz, fun t x hx => RepA.mono hok x _ (fun id hi => hh id (r.idsE t x hx id hi)) (r.env t x hx), fun t x hx id hi => hFF id (r.idsE t x hx id hi), hF, fun k hk => hFF k (r.idsG k hk), fun k hk e he => by
    obtain ⟨e0, h1, h2, _⟩ := hh k (r.idsG k hk) e he
    rw [h2]; exact r.gh k hk e0 h1, hR⟩

def upd {α : Type} (f : Nat → α) (i : Nat) (x : α) (j : Nat) : α := if j = i then x else f j

theorem RelAt.fresh (r : RelAt C n F s a W hdr ow) {id : Nat} (h : ¬ F id) : find s.heap id = none := by
  cases e : find s.heap id with
  | none => rfl
  | some x => exact (h (r.idsH id x e)).elim

/-- A new row without a block. -/
theorem RelAt.allocNil (r : RelAt C n F s a W hdr ow) {id : Nat} (hid : ¬ F id) (sz : Nat) (ao : Option Addr) :
    RelAt C n (fun i => F i ∨ i = id) { s with heap := (id, ⟨false, sz, []⟩) :: s.heap } a W (upd hdr id (.slice ao 0 0)) (upd ow id none) := by
  have hn := r.fresh hid
  have hf : ∀ j e, find ((id, (⟨false, sz, []⟩ : Ent)) :: s.heap) j = some e → (j = id ∧ e = ⟨false, sz, []⟩) ∨ (j ≠ id ∧ find s.heap j = some e) := by
    intro j e h
    rw [find_cons] at h
    by_cases he : j = id
    · rw [if_pos he] at h; cases h; exact .inl ⟨he, rfl⟩
    · rw [if_neg he] at h; exact .inr ⟨he, h⟩
  have hok : ∀ b, OK C W s.heap ow b → OK C W ((id, (⟨false, sz, []⟩ : Ent)) :: s.heap) (upd ow id none) b := by
    rintro b ⟨h1, h2⟩
    refine ⟨h1, ?_⟩
    rintro ⟨j, e, hj, hb⟩
    rcases hf j e hj with ⟨rfl, rfl⟩ | ⟨hne, hj⟩
    · simp [upd] at hb
    · rw [upd, if_neg hne] at hb; exact h2 ⟨j, e, hj, hb⟩
  refine r.rebuild (m := s.nx) ⟨?_, ?_, ?_, r.mem.size, r.mem.frame, r.mem.os, r.mem.tape, r.mem.output⟩ (fun b hb => ⟨hok b hb, rfl⟩) ?_ ?_ (fun i h => .inl h) ?_
  · intro j e hj
    rcases hf j e hj with ⟨rfl, rfl⟩ | ⟨hne, hj⟩
    · exact .inl ⟨fun _ => .inr rfl, .inr (.inl ⟨rfl, by simp [upd], ao, by simp [upd]⟩)⟩
    · rw [upd, upd, if_neg hne, if_neg hne]; exact (r.mem.ent j e hj).mono (fun b hb => ⟨hok b hb, rfl⟩) (fun _ _ => rfl) (fun c hc => by rw [upd, if_neg (fun h => hid (by rw [← h]; exact r.idsR j e c hj hc))])
  · intro j j' e e' b hj hj' hb hb'
    rcases hf j e hj with ⟨rfl, rfl⟩ | ⟨hne, hj⟩
    · simp [upd] at hb
    rcases hf j' e' hj' with ⟨rfl, rfl⟩ | ⟨hne', hj'⟩
    · simp [upd] at hb'
    rw [upd, if_neg hne] at hb; rw [upd, if_neg hne'] at hb'
    exact r.mem.inj j j' e e' b hj hj' hb hb'
  · intro j e b hj hb
    rcases hf j e hj with ⟨rfl, rfl⟩ | ⟨hne, hj⟩
    · simp [upd] at hb
    rw [upd, if_neg hne] at hb
    exact r.mem.lt j e b hj hb
  · intro j hj e he
    rcases hf j e he with ⟨rfl, rfl⟩ | ⟨hne, he⟩
    · exact (hid hj).elim
    · exact ⟨e, he, by rw [upd, if_neg hne], rfl⟩
  · intro j e he
    rcases hf j e he with ⟨rfl, rfl⟩ | ⟨hne, he⟩
    · exact .inr rfl
    · exact .inl (r.idsH j e he)
  · intro j e c he hc
    rcases hf j e he with ⟨rfl, rfl⟩ | ⟨hne, he⟩
    · simp [Ent.ref] at hc
    · exact .inl (r.idsR j e c he hc)

theorem heap_alloc_lt (W : World) (o : Obj) {k : Nat} (h : k < W.heap.size) : (W.alloc o).heap[k]? = W.heap[k]? := by
  change (W.heap.push o)[k]? = _
  rw [Array.getElem?_push, if_neg (by omega)]

/-- A new row in a new block. -/
theorem RelAt.alloc (r : RelAt C n F s a W hdr ow) {id : Nat} (hid : ¬ F id) {sz cap : Nat} {l : List PV} {c : List Value} (t : TypeId) (hz : sz ≠ 0) (hc : cap * sz ≤ c.length) (hl : l.length ≤ cap)
    (hr : RepL W (OK C W s.heap ow) sz l (c.take (l.length * sz))) :
    RelAt C n (fun i => F i ∨ i = id) { s with heap := (id, ⟨false, sz, l⟩) :: s.heap } a (W.alloc (.cells c.toArray t)) (upd hdr id (.slice (some ⟨W.heap.size, 0, none⟩) l.length cap)) (upd ow id (some W.heap.size)) := by
  have hn := r.fresh hid
  have hf : ∀ j e, find ((id, (⟨false, sz, l⟩ : Ent)) :: s.heap) j = some e → (j = id ∧ e = ⟨false, sz, l⟩) ∨ (j ≠ id ∧ find s.heap j = some e) := by
    intro j e h
    rw [find_cons] at h
    by_cases he : j = id
    · rw [if_pos he] at h; cases h; exact .inl ⟨he, rfl⟩
    · rw [if_neg he] at h; exact .inr ⟨he, h⟩
  have hlt : ∀ b, b < W.heap.size → (W.alloc (.cells c.toArray t)).heap[b]? = W.heap[b]? := fun b h => heap_alloc_lt W _ h
  have hok : ∀ b, OK C W s.heap ow b → OK C (W.alloc (.cells c.toArray t)) ((id, (⟨false, sz, l⟩ : Ent)) :: s.heap) (upd ow id (some W.heap.size)) b ∧ (W.alloc (.cells c.toArray t)).heap[b]? = W.heap[b]? := by
    rintro b ⟨⟨h0, h1⟩, h2⟩
    refine ⟨⟨⟨h0, by simp; omega⟩, ?_⟩, hlt b h1⟩
    rintro ⟨j, e, hj, hb⟩
    rcases hf j e hj with ⟨rfl, rfl⟩ | ⟨hne, hj⟩
    · simp [upd] at hb; omega
    · rw [upd, if_neg hne] at hb; exact h2 ⟨j, e, hj, hb⟩
  refine r.rebuild (m := s.nx) ⟨?_, ?_, ?_, ?_, ?_, r.mem.os, r.mem.tape, r.mem.output⟩ hok ?_ ?_ (fun i h => .inl h) ?_
  · intro j e hj
    rcases hf j e hj with ⟨rfl, rfl⟩ | ⟨hne, hj⟩
    · refine .inl ⟨fun h => absurd h hz, .inr (.inr ⟨rfl, W.heap.size, 0, cap, c, by simp [upd], by simp [upd], ⟨t, ?_⟩, by simpa using hc, hl, ?_⟩)⟩
      · exact heap_alloc_new W _
      · simpa using hr.mono hok
    · rw [upd, upd, if_neg hne, if_neg hne]
      exact (r.mem.ent j e hj).mono hok (fun b hb => hlt b (r.mem.lt j e b hj hb).1) (fun c hc => by rw [upd, if_neg (fun h => hid (by rw [← h]; exact r.idsR j e c hj hc))])
  · intro j j' e e' b hj hj' hb hb'
    rcases hf j e hj with ⟨rfl, rfl⟩ | ⟨hne, hj⟩
    · rcases hf j' e' hj' with ⟨rfl, rfl⟩ | ⟨hne', hj'⟩
      · rfl
      · rw [upd, if_neg hne'] at hb'; simp [upd] at hb; have := (r.mem.lt j' e' b hj' hb').1; omega
    · rw [upd, if_neg hne] at hb
      have hlt2 := (r.mem.lt j e b hj hb).1
      rcases hf j' e' hj' with ⟨rfl, rfl⟩ | ⟨hne', hj2'⟩
      · simp only [upd, if_pos rfl] at hb'; cases hb'; omega
      · rw [upd, if_neg hne'] at hb'; exact r.mem.inj j j' e e' b hj hj2' hb hb'
  · intro j e b hj hb
    rcases hf j e hj with ⟨rfl, rfl⟩ | ⟨hne, hj⟩
    · simp [upd] at hb; subst hb; exact ⟨by simp, .inr r.mem.size⟩
    · rw [upd, if_neg hne] at hb
      have := r.mem.lt j e b hj hb
      exact ⟨by simp; omega, this.2⟩
  · have := r.mem.size; simp; omega
  · intro b hb ho; rw [hlt b (by have := r.mem.size; omega)]; exact r.mem.frame b hb ho
  · intro j hj e he
    rcases hf j e he with ⟨rfl, rfl⟩ | ⟨hne, he⟩
    · exact (hid hj).elim
    · exact ⟨e, he, by rw [upd, if_neg hne], rfl⟩
  · intro j e he
    rcases hf j e he with ⟨rfl, rfl⟩ | ⟨hne, he⟩
    · exact .inr rfl
    · exact .inl (r.idsH j e he)
  · intro j e c' he hc'
    rcases hf j e he with ⟨rfl, rfl⟩ | ⟨hne, he⟩
    · rw [Ent.ref_none (by exact hz)] at hc'; cases hc'
    · exact .inl (r.idsR j e c' he hc')

/-- The block b, of the row id, holds something else. -/
theorem RelAt.writeE (r : RelAt C n F s a W hdr ow) {id : Nat} {e e' : Ent} (he : find s.heap id = some e) {W' : World} {b : Nat} (hb : ow id = some b) (hs : e'.sz = e.sz)
    (h2 : ∀ k, k ≠ b → W'.heap[k]? = W.heap[k]?) (h3 : W'.heap.size = W.heap.size) (h4 : W'.os = W.os) (h5 : W'.tape = W.tape) (h6 : W'.output = W.output)
    (hE : RepE W' (OK C W s.heap ow) hdr e' (hdr id) (some b)) (hR : ∀ c, e'.ref = some c → F c) :
    RelAt C n F { s with heap := setIn s.heap id e' } a W' hdr ow := by
  have hf : ∀ j x, find (setIn s.heap id e') j = some x → (j = id ∧ x = e') ∨ (j ≠ id ∧ find s.heap j = some x) := by
    intro j x h
    rw [find_setIn] at h
    by_cases hj : j = id
    · rw [if_pos hj, he] at h; simp at h; exact .inl ⟨hj, h.symm⟩
    · rw [if_neg hj] at h; exact .inr ⟨hj, h⟩
  have hf' : ∀ j x, find (setIn s.heap id e') j = some x → ∃ y, find s.heap j = some y ∧ x.sz = y.sz := by
    intro j x h
    rcases hf j x h with ⟨rfl, rfl⟩ | ⟨_, h⟩
    · exact ⟨e, he, hs⟩
    · exact ⟨x, h, rfl⟩
  have hob : ∀ k, OK C W s.heap ow k → k ≠ b := by rintro k ⟨_, hk⟩ rfl; exact hk ⟨id, e, he, hb⟩
  have hok0 : ∀ k, OK C W s.heap ow k → OK C W' (setIn s.heap id e') ow k := by
    intro k hk
    refine ⟨by rw [h3]; exact hk.1, ?_⟩
    rintro ⟨j, x, hj, ho⟩
    obtain ⟨y, hy, _⟩ := hf' j x hj
    exact hk.2 ⟨j, y, hy, ho⟩
  have hok : ∀ k, OK C W s.heap ow k → OK C W' (setIn s.heap id e') ow k ∧ W'.heap[k]? = W.heap[k]? := fun k hk => ⟨hok0 k hk, h2 k (hob k hk)⟩
  refine r.rebuild (m := s.nx) ⟨?_, ?_, ?_, ?_, ?_, h4.trans r.mem.os, h5.trans r.mem.tape, h6.trans r.mem.output⟩ hok ?_ ?_ (fun i h => h) ?_
  · intro j x hj
    rcases hf j x hj with ⟨rfl, rfl⟩ | ⟨hne, hj⟩
    · rw [hb]; exact hE.mono (fun k hk => ⟨hok0 k hk, rfl⟩) (fun _ _ => rfl) (fun _ _ => rfl)
    · refine (r.mem.ent j x hj).mono hok (fun k hk => h2 k ?_) (fun _ _ => rfl)
      rintro rfl
      exact hne (r.mem.inj j id x e k hj he hk hb)
  · intro j j' x x' k hj hj' hk hk'
    obtain ⟨y, hy, _⟩ := hf' j x hj
    obtain ⟨y', hy', _⟩ := hf' j' x' hj'
    exact r.mem.inj j j' y y' k hy hy' hk hk'
  · intro j x k hj hk
    obtain ⟨y, hy, _⟩ := hf' j x hj
    rw [h3]; exact r.mem.lt j y k hy hk
  · rw [h3]; exact r.mem.size
  · intro k hk ho
    rw [h2 k ?_]
    · exact r.mem.frame k hk ho
    · rintro rfl
      rcases (r.mem.lt id e k he hb).2 with h | h
      · exact ho h
      · omega
  · intro j _ x hj
    obtain ⟨y, hy, hs⟩ := hf' j x hj
    exact ⟨y, hy, rfl, hs⟩
  · intro j x hj
    obtain ⟨y, hy, hs⟩ := hf' j x hj
    exact r.idsH j y hy
  · intro j x c hj hc
    rcases hf j x hj with ⟨rfl, rfl⟩ | ⟨hne, hj⟩
    · exact hR c hc
    · exact r.idsR j x c hj hc

theorem RelAt.write (r : RelAt C n F s a W hdr ow) {id : Nat} {e : Ent} (he : find s.heap id = some e) {W' : World} {b off cap : Nat} {c' : List Value} {l' : List PV} (hz : e.sz ≠ 0) (hb : ow id = some b)
    (hx : hdr id = .slice (some ⟨b, off, none⟩) e.l.length cap) (hl : l'.length = e.l.length) (hfr : e.fro = false) (hcap : e.l.length ≤ cap)
    (h1 : World.rowO W' b c') (h2 : ∀ k, k ≠ b → W'.heap[k]? = W.heap[k]?) (h3 : W'.heap.size = W.heap.size) (h4 : W'.os = W.os) (h5 : W'.tape = W.tape) (h6 : W'.output = W.output)
    (h7 : off + cap * e.sz ≤ c'.length) (h8 : RepL W (OK C W s.heap ow) e.sz l' ((c'.drop off).take (l'.length * e.sz))) :
    RelAt C n F { s with heap := setIn s.heap id { e with l := l' } } a W' hdr ow := by
  refine r.writeE (e' := { e with l := l' }) he hb rfl h2 h3 h4 h5 h6 (.inl ⟨fun h => absurd h hz, .inr (.inr ⟨hfr, b, off, cap, c', rfl, ?_, h1, h7, ?_, ?_⟩)⟩) (fun c hc => ?_)
  · rw [hx]; simp only [hl]
  · simpa only [hl] using hcap
  · refine h8.mono fun k hk => ⟨hk, h2 k ?_⟩
    rintro rfl; exact hk.2 ⟨id, e, he, hb⟩
  · rw [Ent.ref_none (by exact hz)] at hc; cases hc

/-- What an owned row is, as a shared value. -/
theorem RepE3.shared {W : World} {ok ok' : Nat → Prop} {e : Ent} {x : Value} {o : Option Nat} (r : RepE3 W ok e x o) (h : ∀ b, ok b → ok' b) (ho : ∀ b, o = some b → ok' b) : RepC W ok' (.sl e.sz e.l) [x] := by
  have hm : ∀ b, ok b → ok' b ∧ W.heap[b]? = W.heap[b]? := fun b hb => ⟨h b hb, rfl⟩
  rcases r with ⟨h1, h2, h3⟩ | ⟨h1, h2, ao, h3⟩ | ⟨hf, b, off, cap, c, h1, h2, ⟨t, h3⟩, h4, h5, h6⟩
  · exact h2.mono hm
  · rw [h1, h3]; exact .nil
  · rw [h2]; exact .sl (ho b h1) ⟨t, (0, 0), h3⟩ h4 h5 (h6.mono hm)

/-- An owned row is written no more. -/
theorem RelAt.freeze (r : RelAt C n F s a W hdr ow) {id : Nat} {e : Ent} (he : find s.heap id = some e) (hz : e.sz ≠ 0) :
    RelAt C n F { s with heap := setIn s.heap id { e with fro := true } } a W hdr (upd ow id none) := by
  have hf : ∀ j x, find (setIn s.heap id { e with fro := true }) j = some x → (j = id ∧ x = { e with fro := true }) ∨ (j ≠ id ∧ find s.heap j = some x) := by
    intro j x h
    rw [find_setIn] at h
    by_cases hj : j = id
    · rw [if_pos hj, he] at h; simp at h; exact .inl ⟨hj, h.symm⟩
    · rw [if_neg hj] at h; exact .inr ⟨hj, h⟩
  have hok : ∀ k, OK C W s.heap ow k → OK C W (setIn s.heap id { e with fro := true }) (upd ow id none) k := by
    rintro k ⟨h1, h2⟩
    refine ⟨h1, ?_⟩
    rintro ⟨j, x, hj, ho⟩
    rcases hf j x hj with ⟨rfl, rfl⟩ | ⟨hne, hj⟩
    · simp [upd] at ho
    · rw [upd, if_neg hne] at ho; exact h2 ⟨j, x, hj, ho⟩
  have hfree : ∀ b, ow id = some b → OK C W (setIn s.heap id { e with fro := true }) (upd ow id none) b := by
    intro b hb
    refine ⟨⟨.inr (r.mem.lt id e b he hb).2, (r.mem.lt id e b he hb).1⟩, ?_⟩
    rintro ⟨j, x, hj, ho⟩
    rcases hf j x hj with ⟨rfl, rfl⟩ | ⟨hne, hj⟩
    · simp [upd] at ho
    · rw [upd, if_neg hne] at ho; exact hne (r.mem.inj j id x e b hj he ho hb)
  refine r.rebuild (m := s.nx) ⟨?_, ?_, ?_, r.mem.size, r.mem.frame, r.mem.os, r.mem.tape, r.mem.output⟩ (fun k hk => ⟨hok k hk, rfl⟩) ?_ ?_ (fun i h => h) ?_
  · intro j x hj
    rcases hf j x hj with ⟨rfl, rfl⟩ | ⟨hne, hj⟩
    · exact .inl ⟨fun _ => .inl rfl, .inl ⟨rfl, ((r.mem.ent j e he).plain hz).shared hok hfree, by simp [upd]⟩⟩
    · rw [upd, if_neg hne]; exact (r.mem.ent j x hj).mono (fun k hk => ⟨hok k hk, rfl⟩) (fun _ _ => rfl) (fun _ _ => rfl)
  · intro j j' x x' k hj hj' hk hk'
    rcases hf j x hj with ⟨rfl, rfl⟩ | ⟨hne, hj⟩
    · simp [upd] at hk
    rcases hf j' x' hj' with ⟨rfl, rfl⟩ | ⟨hne', hj'⟩
    · simp [upd] at hk'
    rw [upd, if_neg hne] at hk; rw [upd, if_neg hne'] at hk'
    exact r.mem.inj j j' x x' k hj hj' hk hk'
  · intro j x k hj hk
    rcases hf j x hj with ⟨rfl, rfl⟩ | ⟨hne, hj⟩
    · simp [upd] at hk
    rw [upd, if_neg hne] at hk
    exact r.mem.lt j x k hj hk
  · intro j _ x hj
    rcases hf j x hj with ⟨rfl, rfl⟩ | ⟨hne, hj⟩
    · exact ⟨e, he, rfl, rfl⟩
    · exact ⟨x, hj, rfl, rfl⟩
  · intro j x hj
    rcases hf j x hj with ⟨rfl, rfl⟩ | ⟨hne, hj⟩
    · exact r.idsH j e he
    · exact r.idsH j x hj
  · intro j x c hj hc
    rcases hf j x hj with ⟨rfl, rfl⟩ | ⟨hne, hj⟩
    · rw [Ent.ref_none (by exact hz)] at hc; cases hc
    · exact r.idsR j x c hj hc

/-- An owned row is given up. -/
theorem RelAt.drop (r : RelAt C n F s a W hdr ow) (id : Nat) : RelAt C n F { s with heap := strike s.heap id } a W hdr ow := by
  have hf : ∀ j x, find (strike s.heap id) j = some x → j ≠ id ∧ find s.heap j = some x := by
    intro j x h
    rw [find_strike] at h
    by_cases hj : j = id
    · rw [if_pos hj] at h; cases h
    · rw [if_neg hj] at h; exact ⟨hj, h⟩
  have hok : ∀ k, OK C W s.heap ow k → OK C W (strike s.heap id) ow k := by
    rintro k ⟨h1, h2⟩
    exact ⟨h1, fun ⟨j, x, hj, ho⟩ => h2 ⟨j, x, (hf j x hj).2, ho⟩⟩
  refine r.rebuild (m := s.nx) ⟨?_, ?_, ?_, r.mem.size, r.mem.frame, r.mem.os, r.mem.tape, r.mem.output⟩ (fun k hk => ⟨hok k hk, rfl⟩) ?_ ?_ (fun i h => h) (fun j x c hj hc => r.idsR j x c (hf j x hj).2 hc)
  · exact fun j x hj => (r.mem.ent j x (hf j x hj).2).mono (fun k hk => ⟨hok k hk, rfl⟩) (fun _ _ => rfl) (fun _ _ => rfl)
  · exact fun j j' x x' k hj hj' hk hk' => r.mem.inj j j' x x' k (hf j x hj).2 (hf j' x' hj').2 hk hk'
  · exact fun j x k hj hk => r.mem.lt j x k (hf j x hj).2 hk
  · exact fun j _ x hj => ⟨x, (hf j x hj).2, rfl, rfl⟩
  · exact fun j x hj => r.idsH j x (hf j x hj).2

end
end Go.AM

/- The states of the walk, and what a state says of a frame and a world. -/
import Derived.Test.YtphjjlhpepmofaaAM1
set_option linter.all false
namespace Go.AM
open Go

/-- What a slot holds: nothing known, a value, a row that the call owns (by its number), a place in such a row, a place that nobody writes, a function, several values. -/
inductive AV where
  | u
  | v (p : PV)
  | h (id : Nat)
  | ptr (id i off : Nat)
  | rp (cs : List PV)
  | fn (f : Nat) (caps : List AV)
  | tup (l : List AV)
  deriving Inhabited

/-- A row that the call owns: not (any more) to be written; the cells of an element; the elements. -/
structure Ent where
  fro : Bool
  sz : Nat
  l : List PV
  deriving Inhabited

/-- How many cells an element takes (an element of a row of rows takes one). -/
def Ent.w (e : Ent) : Nat := if e.sz = 0 then 1 else e.sz
theorem Ent.w_of {e : Ent} (h : e.sz ≠ 0) : e.w = e.sz := by unfold Ent.w; rw [if_neg h]
theorem Ent.w_congr {e e' : Ent} (h : e'.sz = e.sz) : e'.w = e.w := by unfold Ent.w; rw [h]

abbrev Heap := List (Nat × Ent)

structure St where
  env : List (Nat × AV)
  heap : Heap
  nx : Nat

mutual
def AV.men : AV → Nat → Prop
  | .h i, id => i = id
  | .ptr i _ _, id => i = id
  | .fn _ l, id => AV.mens l id
  | .tup l, id => AV.mens l id
  | .u, _ => False
  | .v _, _ => False
  | .rp _, _ => False
def AV.mens : List AV → Nat → Prop
  | [], _ => False
  | x :: l, id => x.men id ∨ AV.mens l id
end

section
variable (W : World) (ok : Nat → Prop) (hdr : Nat → Value) (H : Heap)
mutual
def RepA : AV → Value → Prop
  | .u, _ => True
  | .v p, x => RepV W ok p x
  | .h id, x => ∀ e, find H id = some e → x = hdr id
  | .ptr id i off, x => ∀ e, find H id = some e → ∃ b o n c, hdr id = .slice (some ⟨b, o, none⟩) n c ∧ x = .pointer (some ⟨b, o + i * e.w + off, none⟩)
  | .rp cs, x => ∃ b o c, x = .pointer (some ⟨b, o, none⟩) ∧ ok b ∧ World.row W b c ∧ RepL W ok 1 cs ((c.drop o).take cs.length) ∧ ∀ p ∈ cs, p.isSt = false
  | .fn f caps, x => ∃ vs : List Value, x = .func (.func f) #[] vs.toArray ∧ RepAs caps vs
  | .tup l, x => ∃ vs : List Value, x = .tuple vs.toArray ∧ RepAs l vs
def RepAs : List AV → List Value → Prop
  | [], [] => True
  | x :: l, v :: vs => RepA x v ∧ RepAs l vs
  | [], _ :: _ => False
  | _ :: _, [] => False
end
end

/-- What the world was when the call began, which blocks it was given to read, and which ones as its own. -/
structure Cx where
  W0 : World
  ok0 : Nat → Prop
  own0 : Nat → Prop
  nin : Nat
  hdr0 : Nat → Value

abbrev Cx.of (W : World) (ok0 own0 : Nat → Prop) : Cx := ⟨W, ok0, own0, 0, fun _ => default⟩

def Cx.vis (C : Cx) (b : Nat) : Prop := C.ok0 b ∨ C.own0 b ∨ C.W0.heap.size ≤ b

/-- The block b belongs to a row that is owned. -/
def Own (H : Heap) (ow : Nat → Option Nat) (b : Nat) : Prop := ∃ id e, find H id = some e ∧ ow id = some b

/-- The block b may be read, and nobody writes it. -/
def OK (C : Cx) (W : World) (H : Heap) (ow : Nat → Option Nat) (b : Nat) : Prop := (C.vis b ∧ b < W.heap.size) ∧ ¬ Own H ow b

/-- A row of rows, one element of which may be a row that the call owns itself: its size is told as 0, its first entry tells which element is which row. -/
def decR : PV → Option (Option (Nat × Nat))
  | .st [] => some none
  | .st [.w (.int _ i), .w (.int _ c)] => some (some (i.toNat, c.toNat))
  | _ => none

def Ent.ref (e : Ent) : Option Nat :=
  if e.sz = 0 then (match e.l with | q :: _ => (match decR q with | some (some (_, c)) => some c | _ => none) | [] => none) else none

def NestL (W : World) (ok : Nat → Prop) (hdr : Nat → Value) (rf : Option (Nat × Nat)) (rest : List PV) (vs : List Value) : Prop :=
  vs.length = rest.length ∧ ∀ j p v, rest[j]? = some p → vs[j]? = some v →
    (∀ i c, rf = some (i, c) → j = i → v = hdr c ∧ ∃ a m n, v = .slice a m n) ∧ ((∀ i c, rf = some (i, c) → j ≠ i) → RepC W ok p [v])

def NestE (W : World) (ok : Nat → Prop) (hdr : Nat → Value) (e : Ent) (x : Value) (o : Option Nat) : Prop :=
  e.fro = false ∧ e.sz = 0 ∧ ∃ q rest rf, e.l = q :: rest ∧ decR q = some rf ∧
    ((rest = [] ∧ o = none ∧ ∃ ao, x = .slice ao 0 0) ∨
     ∃ b off cap c, o = some b ∧ x = .slice (some ⟨b, off, none⟩) rest.length cap ∧ World.rowO W b c ∧ off + cap ≤ c.length ∧ rest.length ≤ cap ∧ NestL W ok hdr rf rest ((c.drop off).take rest.length))

def RepE3 (W : World) (ok : Nat → Prop) (e : Ent) (x : Value) (o : Option Nat) : Prop :=
  (e.fro = true ∧ RepC W ok (.sl e.sz e.l) [x] ∧ o = none) ∨
  (e.l = [] ∧ o = none ∧ ∃ ao, x = .slice ao 0 0) ∨
  (e.fro = false ∧ ∃ b off cap c, o = some b ∧ x = .slice (some ⟨b, off, none⟩) e.l.length cap ∧ World.rowO W b c ∧ off + cap * e.sz ≤ c.length ∧ e.l.length ≤ cap ∧
    RepL W ok e.sz e.l ((c.drop off).take (e.l.length * e.sz)))


def RepE (W : World) (ok : Nat → Prop) (hdr : Nat → Value) (e : Ent) (x : Value) (o : Option Nat) : Prop := ((e.sz = 0 → e.fro = true ∨ e.l = []) ∧ RepE3 W ok e x o) ∨ NestE W ok hdr e x o

theorem RepE.plain {W : World} {ok : Nat → Prop} {hdr : Nat → Value} {e : Ent} {x : Value} {o : Option Nat} (r : RepE W ok hdr e x o) (hz : e.sz ≠ 0) : RepE3 W ok e x o := (r.resolve_right fun h => hz h.2.1).2
theorem RepE.nest {W : World} {ok : Nat → Prop} {hdr : Nat → Value} {e : Ent} {x : Value} {o : Option Nat} (r : RepE W ok hdr e x o) (hz : e.sz = 0) (hf : e.fro = false) (hl : e.l ≠ []) : NestE W ok hdr e x o :=
  r.resolve_left fun h => (h.1 hz).elim (fun h' => by rw [hf] at h'; cases h') hl
theorem Ent.ref_none {e : Ent} (hz : e.sz ≠ 0) : e.ref = none := by unfold Ent.ref; rw [if_neg hz]

structure Mem (C : Cx) (W : World) (H : Heap) (hdr : Nat → Value) (ow : Nat → Option Nat) : Prop where
  ent : ∀ id e, find H id = some e → RepE W (OK C W H ow) hdr e (hdr id) (ow id)
  inj : ∀ id id' e e' b, find H id = some e → find H id' = some e' → ow id = some b → ow id' = some b → id = id'
  lt : ∀ id e b, find H id = some e → ow id = some b → b < W.heap.size ∧ (C.own0 b ∨ C.W0.heap.size ≤ b)
  size : C.W0.heap.size ≤ W.heap.size
  frame : ∀ b, b < C.W0.heap.size → ¬ C.own0 b → W.heap[b]? = C.W0.heap[b]?
  os : W.os = C.W0.os
  tape : W.tape = C.W0.tape
  output : W.output = C.W0.output

/-- The state s tells of the frame's slots and of the world. F: the numbers of rows that were ever given; n: how many slots there are. -/
structure RelAt (C : Cx) (n : Nat) (F : Nat → Prop) (s : St) (a : Act) (W : World) (hdr : Nat → Value) (ow : Nat → Option Nat) : Prop where
  mem : Mem C W s.heap hdr ow
  defers : a.defers = []
  tsz : a.tmps.size = n
  env : ∀ t x, find s.env t = some x → RepA W (OK C W s.heap ow) hdr s.heap x (a.tmps.getD t undef)
  idsE : ∀ t x, find s.env t = some x → ∀ id, x.men id → F id
  idsH : ∀ id e, find s.heap id = some e → F id
  idsG : ∀ k, k < C.nin → F k
  gh : ∀ k, k < C.nin → ∀ e, find s.heap k = some e → hdr k = C.hdr0 k
  idsR : ∀ id e c, find s.heap id = some e → e.ref = some c → F c

def Rel (C : Cx) (n : Nat) (F : Nat → Prop) (s : St) (a : Act) (W : World) : Prop := ∃ hdr ow, RelAt C n F s a W hdr ow

section mono
variable {W W' : World} {ok ok' : Nat → Prop} {hdr hdr' : Nat → Value} {H H' : Heap}

mutual
theorem RepA.mono (h : ∀ b, ok b → ok' b ∧ W'.heap[b]? = W.heap[b]?) : ∀ (x : AV) (v : Value),
    (∀ id, x.men id → ∀ e', find H' id = some e' → ∃ e, find H id = some e ∧ hdr' id = hdr id ∧ e'.sz = e.sz) → RepA W ok hdr H x v → RepA W' ok' hdr' H' x v
  | .u, _, _, _ => by simp [RepA]
  | .v p, x, _, r => by simp only [RepA] at *; exact r.mono h
  | .h id, x, hm, r => by
    simp only [RepA, AV.men] at *
    intro e' he'
    obtain ⟨e, he, h1, h2⟩ := hm id rfl e' he'
    rw [h1]; exact r e he
  | .ptr id i off, x, hm, r => by
    simp only [RepA, AV.men] at *
    intro e' he'
    obtain ⟨e, he, h1, h2⟩ := hm id rfl e' he'
    rw [h1, Ent.w_congr h2]; exact r e he
  | .rp cs, x, _, r => by
    simp only [RepA] at *
    obtain ⟨b, o, c, hx, hb, hr, hl, hs⟩ := r
    exact ⟨b, o, c, hx, (h b hb).1, World.row_congr (h b hb).2 hr, hl.mono h, hs⟩
  | .fn f caps, x, hm, r => by
    simp only [RepA] at *
    obtain ⟨vs, hx, hr⟩ := r
    exact ⟨vs, hx, RepAs.mono h caps vs (by simpa [AV.men] using hm) hr⟩
  | .tup l, x, hm, r => by
    simp only [RepA] at *
    obtain ⟨vs, hx, hr⟩ := r
    exact ⟨vs, hx, RepAs.mono h l vs (by simpa [AV.men] using hm) hr⟩
theorem RepAs.mono (h : ∀ b, ok b → ok' b ∧ W'.heap[b]? = W.heap[b]?) : ∀ (l : List AV) (vs : List Value),
    (∀ id, AV.mens l id → ∀ e', find H' id = some e' → ∃ e, find H id = some e ∧ hdr' id = hdr id ∧ e'.sz = e.sz) → RepAs W ok hdr H l vs → RepAs W' ok' hdr' H' l vs
  | [], [], _, _ => by simp [RepAs]
  | [], _ :: _, _, r => by simp [RepAs] at r
  | _ :: _, [], _, r => by simp [RepAs] at r
  | x :: l, v :: vs, hm, r => by
    simp only [RepAs] at *
    exact ⟨RepA.mono h x v (fun id hi => hm id (by simp [AV.mens, hi])) r.1, RepAs.mono h l vs (fun id hi => hm id (by simp [AV.mens, hi])) r.2⟩
end

theorem RepE3.mono (h : ∀ b, ok b → ok' b ∧ W'.heap[b]? = W.heap[b]?) {e : Ent} {x : Value} {o : Option Nat} (ho : ∀ b, o = some b → W'.heap[b]? = W.heap[b]?) (r : RepE3 W ok e x o) : RepE3 W' ok' e x o := by
  rcases r with ⟨h1, h2, h3⟩ | h1 | ⟨hf, b, off, cap, c, h1, h2, h3, h4, h5, h6⟩
  · exact .inl ⟨h1, h2.mono h, h3⟩
  · exact .inr (.inl h1)
  · refine .inr (.inr ⟨hf, b, off, cap, c, h1, h2, ?_, h4, h5, h6.mono h⟩)
    obtain ⟨t, h3⟩ := h3
    exact ⟨t, (ho b h1).trans h3⟩

theorem NestL.mono (h : ∀ b, ok b → ok' b ∧ W'.heap[b]? = W.heap[b]?) {rf : Option (Nat × Nat)} {rest : List PV} {vs : List Value} (hh : ∀ i c, rf = some (i, c) → hdr' c = hdr c) (r : NestL W ok hdr rf rest vs) : NestL W' ok' hdr' rf rest vs :=
  ⟨r.1, fun j p v h1 h2 => ⟨fun i c e1 e2 => by rw [hh i c e1]; exact (r.2 j p v h1 h2).1 i c e1 e2, fun h3 => ((r.2 j p v h1 h2).2 h3).mono h⟩⟩

theorem NestE.mono (h : ∀ b, ok b → ok' b ∧ W'.heap[b]? = W.heap[b]?) {e : Ent} {x : Value} {o : Option Nat} (ho : ∀ b, o = some b → W'.heap[b]? = W.heap[b]?) (hh : ∀ c, e.ref = some c → hdr' c = hdr c) (r : NestE W ok hdr e x o) : NestE W' ok' hdr' e x o := by
  obtain ⟨hf, hz, q, rest, rf, hl, hq, r⟩ := r
  refine ⟨hf, hz, q, rest, rf, hl, hq, ?_⟩
  rcases r with r | ⟨b, off, cap, c, h1, h2, ⟨t, h3⟩, h4, h5, h6⟩
  · exact .inl r
  · refine .inr ⟨b, off, cap, c, h1, h2, ⟨t, (ho b h1).trans h3⟩, h4, h5, h6.mono h fun i c' e' => hh c' ?_⟩
    simp [Ent.ref, hz, hl, hq, e']

theorem RepE.mono (h : ∀ b, ok b → ok' b ∧ W'.heap[b]? = W.heap[b]?) {e : Ent} {x : Value} {o : Option Nat} (ho : ∀ b, o = some b → W'.heap[b]? = W.heap[b]?) (hh : ∀ c, e.ref = some c → hdr' c = hdr c) (r : RepE W ok hdr e x o) : RepE W' ok' hdr' e x o :=
  r.imp (fun q => ⟨q.1, q.2.mono h ho⟩) (·.mono h ho hh)
end mono

theorem getD_put {a : Act} {d : Tmp} {v : Value} (t : Nat) (h : d < a.tmps.size) : ((a.put (some d) v).tmps).getD t undef = if t = d then v else a.tmps.getD t undef := by
  unfold Act.put
  by_cases e : t = d
  · subst e; simp [Array.getD_eq_getD_getElem?, h]
  · simp [Array.getD_eq_getD_getElem?, Array.getElem?_setIfInBounds_ne (Ne.symm e), e]

section rel
variable {C : Cx} {n : Nat} {F : Nat → Prop} {s : St} {a : Act} {W : World} {hdr : Nat → Value} {ow : Nat → Option Nat}

theorem RelAt.tsz_put (r : RelAt C n F s a W hdr ow) (d : Option Tmp) (v : Value) : (a.put d v).tmps.size = n ∧ (a.put d v).defers = [] := by
  cases d <;> simp [Act.put, r.tsz, r.defers]

/-- A value into a slot. -/
theorem RelAt.put (r : RelAt C n F s a W hdr ow) {d : Tmp} (hd : d < n) {x : AV} {v : Value} (hx : RepA W (OK C W s.heap ow) hdr s.heap x v) (hm : ∀ id, x.men id → F id) :
    RelAt C n F { s with env := (d, x) :: s.env } (a.put (some d) v) W hdr ow := by
  refine ⟨r.mem, (r.tsz_put _ _).2, (r.tsz_put _ _).1, ?_, ?_, r.idsH, r.idsG, r.gh, r.idsR⟩
  · intro t y hy
    rw [getD_put t (by rw [r.tsz]; exact hd)]
    simp only [find_cons] at hy
    by_cases e : t = d
    · rw [if_pos e] at hy; cases hy; rw [if_pos e]; exact hx
    · rw [if_neg e] at hy; rw [if_neg e]; exact r.env t y hy
  · intro t y hy
    simp only [find_cons] at hy
    by_cases e : t = d
    · rw [if_pos e] at hy; cases hy; exact hm
    · rw [if_neg e] at hy; exact r.idsE t y hy

theorem RelAt.put_none (r : RelAt C n F s a W hdr ow) (v : Value) : RelAt C n F s (a.put none v) W hdr ow := r

/-- More numbers may have been given. -/
theorem RelAt.monoF {F' : Nat → Prop} (r : RelAt C n F s a W hdr ow) (h : ∀ id, F id → F' id) : RelAt C n F' s a W hdr ow :=
  ⟨r.mem, r.defers, r.tsz, r.env, fun t x hx id hi => h id (r.idsE t x hx id hi), fun id e he => h id (r.idsH id e he), fun k hk => h k (r.idsG k hk), r.gh, fun id e c h1 h2 => h c (r.idsR id e c h1 h2)⟩

/-- The operands. -/
inductive Opd where
  | t (n : Nat)
  | c (p : PV)
  | f (n : Nat)

def ev (E : List (Nat × AV)) : Opd → Option AV
  | .t n => find E n
  | .c p => some (.v p)
  | .f n => some (.fn n [])

/-- A world with the same memory. -/
def Same (W W' : World) : Prop := W'.heap = W.heap ∧ W'.os = W.os ∧ W'.tape = W.tape ∧ W'.output = W.output

theorem OK.same {W' : World} {H : Heap} (h : Same W W') (b : Nat) : OK C W' H ow b ↔ OK C W H ow b := by unfold OK; rw [h.1]

theorem RelAt.same {W' : World} (r : RelAt C n F s a W hdr ow) (h : Same W W') : RelAt C n F s a W' hdr ow := by
  have hb : ∀ b, OK C W s.heap ow b → OK C W' s.heap ow b ∧ W'.heap[b]? = W.heap[b]? := fun b hb => ⟨(OK.same h b).2 hb, by rw [h.1]⟩
  obtain ⟨h1, h2, h3, h4⟩ := h
  refine ⟨⟨?_, r.mem.inj, ?_, ?_, ?_, ?_, ?_, ?_⟩, r.defers, r.tsz, ?_, r.idsE, r.idsH, r.idsG, r.gh, r.idsR⟩
  · exact fun id e he => (r.mem.ent id e he).mono hb (fun b _ => by rw [h1]) (fun _ _ => rfl)
  · rw [h1]; exact r.mem.lt
  · rw [h1]; exact r.mem.size
  · rw [h1]; exact r.mem.frame
  · rw [h2]; exact r.mem.os
  · rw [h3]; exact r.mem.tape
  · rw [h4]; exact r.mem.output
  · exact fun t x hx => RepA.mono hb x _ (fun id _ e he => ⟨e, he, rfl, rfl⟩) (r.env t x hx)

end rel
end Go.AM

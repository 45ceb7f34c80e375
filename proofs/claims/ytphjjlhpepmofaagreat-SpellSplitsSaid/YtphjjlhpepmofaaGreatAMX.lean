/- The abstract values of the walk, and how a world of the model bears them. -/
import Derived.Calls
import Derived.Tactics
import Derived.Deep.AppendSrc
import Derived.Below
import Derived.Laws.Rows
import Derived.Laws.StructEq
import Derived.Deep.Upon
set_option linter.all false
namespace Go.AM
open Go

/-- A value without memory: a scalar, a row of values, the cells of a struct or an array. -/
inductive PV where
  | w (v : Value)
  | sl (sz : Nat) (l : List PV)
  | st (cs : List PV)
  | pt (cs : List PV)
  | cl (f : Nat) (ps : List PV)
  | nl
  | ifc (t : Nat) (p : PV)
  deriving Inhabited

@[simp] def PV.isSt : PV → Bool | .st _ => true | _ => false
def PV.cells : PV → List PV | .st cs => cs | p => [p]
@[simp] theorem PV.cells_st (cs : List PV) : (PV.st cs).cells = cs := rfl
@[simp] theorem PV.cells_w (v : Value) : (PV.w v).cells = [.w v] := rfl
@[simp] theorem PV.cells_pt (cs : List PV) : (PV.pt cs).cells = [.pt cs] := rfl
@[simp] theorem PV.cells_nl : PV.nl.cells = [.nl] := rfl
@[simp] theorem PV.cells_ifc (t : Nat) (p : PV) : (PV.ifc t p).cells = [.ifc t p] := rfl
@[simp] theorem PV.cells_cl (f : Nat) (ps : List PV) : (PV.cl f ps).cells = [.cl f ps] := rfl
@[simp] theorem PV.cells_sl (sz : Nat) (l : List PV) : (PV.sl sz l).cells = [.sl sz l] := rfl

/-- A scalar: a value of one cell that names no memory. -/
def scal : Value → Bool
  | .bool _ | .int .. | .string _ | .nilIface | .nilFunc | .pointer none | .map none => true
  | .func (.func _) a b => a.size == 0 && b.size == 0
  | .iface _ v => scal v
  | _ => false

/-- The block b holds the cells c. -/
def World.row (W : World) (b : Nat) (c : List Value) : Prop := ∃ t fr, W.heap[b]? = some (.cells c.toArray t fr)
def World.rowO (W : World) (b : Nat) (c : List Value) : Prop := ∃ t, W.heap[b]? = some (.cells c.toArray t (0, 0))

mutual
/-- The cells vs bear the value p; its rows lie in blocks that are 'ok'. -/
inductive RepC (W : World) (ok : Nat → Prop) : PV → List Value → Prop
  | w {v : Value} : scal v = true → RepC W ok (.w v) [v]
  | nil {sz : Nat} {ao : Option Addr} : RepC W ok (.sl sz []) [.slice ao 0 0]
  | sl {sz b off cap : Nat} {l : List PV} {c : List Value} : ok b → World.row W b c → off + cap * sz ≤ c.length → l.length ≤ cap →
      RepL W ok sz l ((c.drop off).take (l.length * sz)) → RepC W ok (.sl sz l) [.slice (some ⟨b, off, none⟩) l.length cap]
  | st {cs : List PV} {vs : List Value} : (∀ p ∈ cs, p.isSt = false) → RepL W ok 1 cs vs → RepC W ok (.st cs) vs
  | pt {b o : Nat} {cs : List PV} {c : List Value} : ok b → World.row W b c → (∀ p ∈ cs, p.isSt = false) → RepL W ok 1 cs ((c.drop o).take cs.length) → RepC W ok (.pt cs) [.pointer (some ⟨b, o, none⟩)]
  | cl {f : Nat} {ps : List PV} {vs : List Value} : (∀ p ∈ ps, p.isSt = false) → RepL W ok 1 ps vs → RepC W ok (.cl f ps) [.func (.func f) #[] vs.toArray]
  | nls : RepC W ok .nl [.slice none 0 0]
  | if1 {t : Nat} {p : PV} {v : Value} : p.isSt = false → RepC W ok p [v] → RepC W ok (.ifc t p) [.iface t v]
  | ifS {t : Nat} {p : PV} {vs : List Value} : p.isSt = true → RepC W ok p vs → RepC W ok (.ifc t p) [.iface t (.agg vs.toArray)]
/-- The cells vs bear the values l, each in sz cells. -/
inductive RepL (W : World) (ok : Nat → Prop) : Nat → List PV → List Value → Prop
  | nil {sz : Nat} : RepL W ok sz [] []
  | cons {sz : Nat} {p : PV} {l : List PV} {vs ws : List Value} : vs.length = sz → RepC W ok p vs → RepL W ok sz l ws → RepL W ok sz (p :: l) (vs ++ ws)
end

/-- A value as an operand has it. -/
def RepV (W : World) (ok : Nat → Prop) (p : PV) (v : Value) : Prop :=
  if p.isSt = true then ∃ vs : List Value, v = .agg vs.toArray ∧ RepC W ok p vs else RepC W ok p [v]

section mono
variable {W W' : World} {ok ok' : Nat → Prop}

theorem World.row_congr {b : Nat} {c : List Value} (h : W'.heap[b]? = W.heap[b]?) (r : World.row W b c) : World.row W' b c := by
  obtain ⟨t, fr, r⟩ := r; exact ⟨t, fr, h.trans r⟩

theorem RepC.mono (h : ∀ b, ok b → ok' b ∧ W'.heap[b]? = W.heap[b]?) {p : PV} {vs : List Value} (r : RepC W ok p vs) : RepC W' ok' p vs := by
  refine RepC.rec (motive_1 := fun p vs _ => RepC W' ok' p vs) (motive_2 := fun sz l vs _ => RepL W' ok' sz l vs) ?_ ?_ ?_ ?_ ?_ ?_ ?_ ?_ ?_ ?_ ?_ r
  · intro v h; exact .w h
  · intro sz ao; exact .nil
  · intro sz b off cap l c hb hr h1 h2 _ ih; exact .sl (h b hb).1 (World.row_congr (h b hb).2 hr) h1 h2 ih
  · intro cs vs h _ ih; exact .st h ih
  · intro b o cs c hb hr hs _ ih; exact .pt (h b hb).1 (World.row_congr (h b hb).2 hr) hs ih
  · intro f ps vs hs _ ih; exact .cl hs ih
  · exact .nls
  · intro t p v h _ ih; exact .if1 h ih
  · intro t p vs h _ ih; exact .ifS h ih
  · intro sz; exact .nil
  · intro sz p l vs ws h1 _ _ ih1 ih2; exact .cons h1 ih1 ih2

theorem RepL.mono (h : ∀ b, ok b → ok' b ∧ W'.heap[b]? = W.heap[b]?) {sz : Nat} {l : List PV} {vs : List Value} (r : RepL W ok sz l vs) : RepL W' ok' sz l vs := by
  refine RepL.rec (motive_1 := fun p vs _ => RepC W' ok' p vs) (motive_2 := fun sz l vs _ => RepL W' ok' sz l vs) ?_ ?_ ?_ ?_ ?_ ?_ ?_ ?_ ?_ ?_ ?_ r
  · intro v h; exact .w h
  · intro sz ao; exact .nil
  · intro sz b off cap l c hb hr h1 h2 _ ih; exact .sl (h b hb).1 (World.row_congr (h b hb).2 hr) h1 h2 ih
  · intro cs vs h _ ih; exact .st h ih
  · intro b o cs c hb hr hs _ ih; exact .pt (h b hb).1 (World.row_congr (h b hb).2 hr) hs ih
  · intro f ps vs hs _ ih; exact .cl hs ih
  · exact .nls
  · intro t p v h _ ih; exact .if1 h ih
  · intro t p vs h _ ih; exact .ifS h ih
  · intro sz; exact .nil
  · intro sz p l vs ws h1 _ _ ih1 ih2; exact .cons h1 ih1 ih2

theorem RepV.mono (h : ∀ b, ok b → ok' b ∧ W'.heap[b]? = W.heap[b]?) {p : PV} {v : Value} (r : RepV W ok p v) : RepV W' ok' p v := by
  unfold RepV at *
  split
  · rename_i hp; rw [if_pos hp] at r; obtain ⟨vs, e, r⟩ := r; exact ⟨vs, e, r.mono h⟩
  · rename_i hp; rw [if_neg hp] at r; exact r.mono h
end mono

section rows
variable {W : World} {ok : Nat → Prop}

theorem RepL.length {sz : Nat} {l : List PV} {vs : List Value} (r : RepL W ok sz l vs) : vs.length = l.length * sz := by
  induction l generalizing vs with
  | nil => cases r; simp
  | cons p l ih => cases r with | cons h1 _ r => simp [h1, ih r, Nat.add_mul, Nat.add_comm]

theorem RepL.get {sz : Nat} {l : List PV} {vs : List Value} (r : RepL W ok sz l vs) {i : Nat} {p : PV} (h : l[i]? = some p) : RepC W ok p ((vs.drop (i * sz)).take sz) ∧ (i + 1) * sz ≤ vs.length := by
  induction l generalizing vs i with
  | nil => simp at h
  | cons q l ih =>
    cases r with
    | cons h1 r0 r =>
      rename_i ws us
      cases i with
      | zero => simp at h; subst h; refine ⟨?_, by simp [h1]⟩; subst h1; simpa using r0
      | succ i =>
        simp at h
        obtain ⟨a, b⟩ := ih r h
        have e : (i + 1) * sz = ws.length + i * sz := by rw [h1, Nat.add_mul]; omega
        refine ⟨?_, by simp [Nat.add_mul, h1] at *; omega⟩
        rw [e, List.drop_length_add_append]; simpa using a

theorem RepL.set {sz : Nat} {l : List PV} {vs : List Value} (r : RepL W ok sz l vs) {i : Nat} {p : PV} {us : List Value} (h : i < l.length) (hp : RepC W ok p us) (hu : us.length = sz) :
    RepL W ok sz (l.set i p) (vs.take (i * sz) ++ us ++ vs.drop ((i + 1) * sz)) := by
  induction l generalizing vs i with
  | nil => simp at h
  | cons q l ih =>
    cases r with
    | cons h1 r0 r =>
      rename_i ws xs
      cases i with
      | zero =>
        have e : (0 + 1) * sz = ws.length := by omega
        simp only [List.set_cons_zero, e, List.drop_left]
        simpa using RepL.cons hu hp r
      | succ i =>
        have e : (i + 1) * sz = ws.length + i * sz := by rw [h1, Nat.add_mul]; omega
        have e2 : (i + 1 + 1) * sz = ws.length + (i + 1) * sz := by rw [h1, Nat.add_mul (i+1)]; omega
        rw [List.set_cons_succ, e, e2, List.take_length_add_append, List.drop_length_add_append]
        simpa using RepL.cons h1 r0 (ih r (by simpa using h))

theorem RepL.append {sz : Nat} {l l' : List PV} {vs vs' : List Value} (r : RepL W ok sz l vs) (r' : RepL W ok sz l' vs') : RepL W ok sz (l ++ l') (vs ++ vs') := by
  induction l generalizing vs with
  | nil => cases r; simpa using r'
  | cons p l ih => cases r with | cons h1 r0 r => rw [List.append_assoc]; exact .cons h1 r0 (ih r)

theorem RepL.take {sz : Nat} {l : List PV} {vs : List Value} (r : RepL W ok sz l vs) (n : Nat) : RepL W ok sz (l.take n) (vs.take (n * sz)) := by
  induction l generalizing vs n with
  | nil => cases r; simpa using RepL.nil
  | cons p l ih =>
    cases r with
    | cons h1 r0 r =>
      rename_i ws xs
      cases n with
      | zero => simpa using RepL.nil
      | succ n =>
        have e : (n + 1) * sz = ws.length + n * sz := by rw [h1, Nat.add_mul]; omega
        rw [e, List.take_length_add_append]; simpa using RepL.cons h1 r0 (ih r n)

theorem RepL.drop {sz : Nat} {l : List PV} {vs : List Value} (r : RepL W ok sz l vs) (n : Nat) : RepL W ok sz (l.drop n) (vs.drop (n * sz)) := by
  induction l generalizing vs n with
  | nil => cases r; simpa using RepL.nil
  | cons p l ih =>
    cases r with
    | cons h1 r0 r =>
      rename_i ws xs
      cases n with
      | zero => simpa using RepL.cons h1 r0 r
      | succ n =>
        have e : (n + 1) * sz = ws.length + n * sz := by rw [h1, Nat.add_mul]; omega
        rw [e, List.drop_length_add_append]; simpa using ih r n

theorem RepL.one {p : PV} {us : List Value} (h : RepC W ok p us) : RepL W ok us.length [p] us := by
  simpa using RepL.cons rfl h .nil

theorem RepL.replicate {sz : Nat} {p : PV} {us : List Value} (h : RepC W ok p us) (hu : us.length = sz) (n : Nat) : RepL W ok sz (List.replicate n p) (List.replicate n us).flatten := by
  induction n with
  | zero => exact .nil
  | succ n ih => rw [List.replicate_succ, List.replicate_succ, List.flatten_cons]; exact .cons hu h ih

end rows

/-! ### The finite maps of the walk -/
def find {α : Type} : List (Nat × α) → Nat → Option α
  | [], _ => none
  | (k, v) :: l, t => if t = k then some v else find l t

theorem find_cons {α : Type} (k : Nat) (v : α) (l : List (Nat × α)) (t : Nat) : find ((k, v) :: l) t = if t = k then some v else find l t := rfl
theorem find_nil {α : Type} (t : Nat) : find ([] : List (Nat × α)) t = none := rfl

/-- Strike a key. -/
def strike {α : Type} (l : List (Nat × α)) (t : Nat) : List (Nat × α) := l.filter fun p => !(p.1 == t)

theorem find_strike {α : Type} (l : List (Nat × α)) (t u : Nat) : find (strike l t) u = if u = t then none else find l u := by
  induction l with
  | nil => simp [strike, find]
  | cons p l ih =>
    obtain ⟨k, v⟩ := p
    have hs : strike ((k, v) :: l) t = if k = t then strike l t else (k, v) :: strike l t := by
      unfold strike; rw [List.filter_cons]; by_cases h : k = t <;> simp [h]
    rw [hs, find_cons]
    by_cases h : k = t
    · subst h; simp only [if_true, ih]; by_cases h2 : u = k <;> simp [h2]
    · simp only [if_neg h, find_cons, ih]
      by_cases h2 : u = k
      · subst h2; simp [h]
      · simp [h2]

theorem strike_nil {α : Type} (t : Nat) : strike ([] : List (Nat × α)) t = [] := rfl
theorem strike_cons {α : Type} (k : Nat) (v : α) (l : List (Nat × α)) (t : Nat) : strike ((k, v) :: l) t = if k = t then strike l t else (k, v) :: strike l t := by
  unfold strike; rw [List.filter_cons]; by_cases h : k = t <;> simp [h]

/-- Put a key in the place where it lies, or in front. -/
def setIn {α : Type} (l : List (Nat × α)) (t : Nat) (v : α) : List (Nat × α) := l.map fun p => if p.1 = t then (t, v) else p

theorem find_setIn {α : Type} (l : List (Nat × α)) (t : Nat) (v : α) (u : Nat) : find (setIn l t v) u = if u = t then (find l t).map (fun _ => v) else find l u := by
  induction l with
  | nil => simp [setIn, find]
  | cons p l ih =>
    obtain ⟨k, x⟩ := p
    have hs : setIn ((k, x) :: l) t v = (if k = t then (t, v) else (k, x)) :: setIn l t v := rfl
    rw [hs]
    by_cases h : k = t
    · subst h
      simp only [if_true, find_cons, ih]
      by_cases h2 : u = k <;> simp [h2]
    · simp only [if_neg h, find_cons, ih]
      by_cases h2 : u = k
      · subst h2; simp [h]
      · by_cases h3 : u = t
        · subst h3; simp [h2]
        · simp [h2, h3]

end Go.AM
/- The states of the walk, and what a state says of a frame and a world. -/
set_option linter.all false
namespace Go.AM
open Go
variable [dr : Inhabited Prop]

/-- What a slot holds: nothing known, a value, a row that the call owns (by its number), a place in such a row, a place that nobody writes, a function, several values. -/
inductive AV where
  | u
  | v (p : PV)
  | h (id : Nat)
  | ptr (id i off : Nat)
  | sub (id lo n : Nat)
  | ub
  | rp (cs : List PV)
  | fn (f : Nat) (caps : List AV)
  | tup (l : List AV)
  deriving Inhabited

/-- A row that the call owns: not (any more) to be written; the cells of an element; the elements. -/
structure Ent where
  fro : Bool
  sz : Nat
  l : List PV
  deriving Inhabited

/-- How many cells an element takes (an element of a row of rows takes one). -/
def Ent.w (e : Ent) : Nat := if e.sz = 0 then 1 else e.sz
theorem Ent.w_of {e : Ent} (h : e.sz ≠ 0) : e.w = e.sz := by unfold Ent.w; rw [if_neg h]
theorem Ent.w_congr {e e' : Ent} (h : e'.sz = e.sz) : e'.w = e.w := by unfold Ent.w; rw [h]

abbrev Heap := List (Nat × Ent)

structure St where
  env : List (Nat × AV)
  heap : Heap
  nx : Nat

mutual
def AV.men : AV → Nat → Prop
  | .h i, id => i = id
  | .ptr i _ _, id => i = id
  | .sub i _ _, id => i = id
  | .fn _ l, id => AV.mens l id
  | .tup l, id => AV.mens l id
  | .u, _ => False
  | .v _, _ => False
  | .rp _, _ => False
  | .ub, _ => False
def AV.mens : List AV → Nat → Prop
  | [], _ => False
  | x :: l, id => x.men id ∨ AV.mens l id
end

section
variable (W : World) (ok : Nat → Prop) (hdr : Nat → Value) (H : Heap)
mutual
def RepA : AV → Value → Prop
  | .u, _ => True
  | .v p, x => RepV W ok p x
  | .h id, x => ∀ e, find H id = some e → x = hdr id
  | .ptr id i off, x => ∀ e, find H id = some e → ∃ b o n c, hdr id = .slice (some ⟨b, o, none⟩) n c ∧ x = .pointer (some ⟨b, o + i * e.w + off, none⟩)
  | .sub id lo n, x => ∀ e, find H id = some e → ∃ b o m c, hdr id = .slice (some ⟨b, o, none⟩) m c ∧ x = .slice (some ⟨b, o + lo * e.w, none⟩) n (c - lo)
  | .ub, x => ∃ b, x = .bool b
  | .rp cs, x => ∃ b o c, x = .pointer (some ⟨b, o, none⟩) ∧ ok b ∧ World.row W b c ∧ RepL W ok 1 cs ((c.drop o).take cs.length) ∧ ∀ p ∈ cs, p.isSt = false
  | .fn f caps, x => ∃ vs : List Value, x = .func (.func f) #[] vs.toArray ∧ RepAs caps vs
  | .tup l, x => ∃ vs : List Value, x = .tuple vs.toArray ∧ RepAs l vs
def RepAs : List AV → List Value → Prop
  | [], [] => True
  | x :: l, v :: vs => RepA x v ∧ RepAs l vs
  | [], _ :: _ => False
  | _ :: _, [] => False
end
end

/-- What the world was when the call began, which blocks it was given to read, and which ones as its own. -/
structure Cx where
  W0 : World
  ok0 : Nat → Prop
  own0 : Nat → Prop
  nin : Nat
  hdr0 : Nat → Value

abbrev Cx.of (W : World) (ok0 own0 : Nat → Prop) : Cx := ⟨W, ok0, own0, 0, fun _ => default⟩

def Cx.vis (C : Cx) (b : Nat) : Prop := C.ok0 b ∨ C.own0 b ∨ C.W0.heap.size ≤ b

/-- The block b belongs to a row that is owned. -/
def Own (H : Heap) (ow : Nat → Option Nat) (b : Nat) : Prop := ∃ id e, find H id = some e ∧ ow id = some b

/-- The block b may be read, and nobody writes it. -/
def OK (C : Cx) (W : World) (H : Heap) (ow : Nat → Option Nat) (b : Nat) : Prop := (C.vis b ∧ b < W.heap.size) ∧ ¬ Own H ow b

/-- A row of rows, one element of which may be a row that the call owns itself: its size is told as 0, its first entry tells which element is which row. -/
def decR : PV → Option (Option (Nat × Nat))
  | .st [] => some none
  | .st [.w (.int _ i), .w (.int _ c)] => some (some (i.toNat, c.toNat))
  | _ => none

def Ent.ref (e : Ent) : Option Nat :=
  if e.sz = 0 then (match e.l with | q :: _ => (match decR q with | some (some (_, c)) => some c | _ => none) | [] => none) else none

/-- A row of rows all elements of which are rows that the call owns: element j is row c0 + j, but element i is row c. -/
def decD : PV → Option (Nat × Option (Nat × Nat))
  | .st [.w (.bool _), .w (.int _ c0)] => some (c0.toNat, none)
  | .st [.w (.bool _), .w (.int _ c0), .w (.int _ i), .w (.int _ c)] => some (c0.toNat, some (i.toNat, c.toNat))
  | _ => none

def dAt (c0 : Nat) (ov : Option (Nat × Nat)) (j : Nat) : Nat := match ov with
  | some (i, c) => if j = i then c else c0 + j
  | none => c0 + j

theorem decR_D {q : PV} {x : Nat × Option (Nat × Nat)} (h : decD q = some x) : decR q = none := by
  unfold decD at h
  split at h
  · rfl
  · rfl
  · cases h

theorem decD_R {q : PV} {x : Option (Nat × Nat)} (h : decR q = some x) : decD q = none := by
  cases e : decD q with
  | none => rfl
  | some y => rw [decR_D e] at h; cases h

/-- Marks of what is no row: a map, an iterator. -/
def sp : PV → Bool
  | .st (.w (.string _) :: _) => true
  | _ => false

/-- A map: behind this mark one entry a key, the key and its value. -/
def decM : PV → Bool
  | .st [.w (.string _)] => true
  | _ => false

/-- An iterator over the map of that number with so many entries; behind the mark, the numbers of those that were come to. -/
def decI : PV → Option (Nat × Nat)
  | .st [.w (.string _), .w (.int _ m), .w (.int _ n)] => some (m.toNat, n.toNat)
  | _ => none

def isSp (l : List PV) : Bool := match l with | q :: _ => sp q | [] => false
def isM (l : List PV) : Bool := match l with | q :: _ => decM q | [] => false

theorem decM_sp {q : PV} (h : decM q = true) : sp q = true := by
  unfold decM at h
  split at h
  · rfl
  · cases h

theorem decI_sp {q : PV} {x : Nat × Nat} (h : decI q = some x) : sp q = true := by
  unfold decI at h
  split at h
  · rfl
  · cases h

theorem sp_R {q : PV} (h : sp q = true) : decR q = none ∧ decD q = none := by
  unfold sp at h
  split at h
  · exact ⟨rfl, rfl⟩
  · cases h

theorem decM_I {q : PV} (h : decM q = true) : decI q = none := by
  unfold decM at h
  split at h
  · rfl
  · cases h

theorem sp_ofR {q : PV} {x : Option (Nat × Nat)} (h : decR q = some x) : sp q = false := by
  cases e : sp q with
  | false => rfl
  | true => rw [(sp_R e).1] at h; cases h

theorem sp_ofD {q : PV} {x : Nat × Option (Nat × Nat)} (h : decD q = some x) : sp q = false := by
  cases e : sp q with
  | false => rfl
  | true => rw [(sp_R e).2] at h; cases h

/-- The row c is an element of e. -/
def Ent.refs (e : Ent) (c : Nat) : Prop := e.ref = some c ∨ (e.sz = 0 ∧ ∃ q rest c0 ov j, e.l = q :: rest ∧ decD q = some (c0, ov) ∧ j < rest.length ∧ c = dAt c0 ov j) ∨
  (e.sz = 0 ∧ ∃ q rest n, e.l = q :: rest ∧ decI q = some (c, n))

theorem Ent.refs_nil {f : Bool} {z c : Nat} : ¬ (Ent.mk f z []).refs c := by
  rintro (h | ⟨_, q, rest, _, _, _, h, _⟩ | ⟨_, q, rest, _, h, _⟩)
  · simp [Ent.ref] at h
  · cases h
  · cases h

theorem Ent.refs_I {e : Ent} {g : PV} {rest : List PV} {m n c : Nat} (hz : e.sz = 0) (hl : e.l = g :: rest) (hd : decI g = some (m, n)) : e.refs c ↔ c = m := by
  have hs := sp_R (decI_sp hd)
  constructor
  · rintro (h | ⟨_, q, rest', _, _, _, h, h2, _⟩ | ⟨_, q, rest', n', h, h2⟩)
    · simp [Ent.ref, hz, hl, hs.1] at h
    · rw [hl] at h; injection h with e1 _; subst e1; rw [hs.2] at h2; cases h2
    · rw [hl] at h; injection h with e1 _; subst e1; rw [hd] at h2; cases h2; rfl
  · rintro rfl
    exact .inr (.inr ⟨hz, g, rest, n, hl, hd⟩)

theorem Ent.refs_M {e : Ent} {g : PV} {rest : List PV} {c : Nat} (hz : e.sz = 0) (hl : e.l = g :: rest) (hd : decM g = true) : ¬ e.refs c := by
  have hs := sp_R (decM_sp hd)
  rintro (h | ⟨_, q, rest', _, _, _, h, h2, _⟩ | ⟨_, q, rest', n', h, h2⟩)
  · simp [Ent.ref, hz, hl, hs.1] at h
  · rw [hl] at h; injection h with e1 _; subst e1; rw [hs.2] at h2; cases h2
  · rw [hl] at h; injection h with e1 _; subst e1; rw [decM_I hd] at h2; cases h2

/-- Rows and maps that name no other one. -/
def Ent.sol (e : Ent) : Prop := e.sz ≠ 0 ∨ isM e.l = true
theorem Ent.sol_refs {e : Ent} {c : Nat} (h : e.sol) : ¬ e.refs c := by
  by_cases hz : e.sz = 0
  · have h := h.resolve_left (fun h => h hz)
    cases hl : e.l with
    | nil => rw [hl] at h; cases h
    | cons q rest => rw [hl] at h; exact Ent.refs_M hz hl h
  · rintro (h | ⟨h, _⟩ | ⟨h, _⟩)
    · unfold Ent.ref at h; rw [if_neg hz] at h; cases h
    · exact hz h
    · exact hz h

theorem Ent.refs_R {e : Ent} {g : PV} {rest : List PV} {rf : Option (Nat × Nat)} {c : Nat} (hz : e.sz = 0) (hl : e.l = g :: rest) (hrf : decR g = some rf) : e.refs c ↔ ∃ i, rf = some (i, c) := by
  constructor
  · rintro (h | ⟨_, q, rest', c0, ov, j, h1, h2, _⟩ | ⟨_, q, rest', n, h1, h2⟩)
    · cases rf with
      | none => simp [Ent.ref, hz, hl, hrf] at h
      | some p => obtain ⟨i, c'⟩ := p; simp [Ent.ref, hz, hl, hrf] at h; subst h; exact ⟨i, rfl⟩
    · rw [hl] at h1; injection h1 with e1 _; subst e1; rw [decD_R hrf] at h2; cases h2
    · rw [hl] at h1; injection h1 with e1 _; subst e1; rw [(sp_R (decI_sp h2)).1] at hrf; cases hrf
  · rintro ⟨i, rfl⟩
    exact .inl (by simp [Ent.ref, hz, hl, hrf])

theorem Ent.refs_D {e : Ent} {g : PV} {rest : List PV} {c0 : Nat} {ov : Option (Nat × Nat)} {c : Nat} (hz : e.sz = 0) (hl : e.l = g :: rest) (hd : decD g = some (c0, ov)) : e.refs c ↔ ∃ j, j < rest.length ∧ c = dAt c0 ov j := by
  constructor
  · rintro (h | ⟨_, q, rest', c0', ov', j, h1, h2, h3, h4⟩ | ⟨_, q, rest', n, h1, h2⟩)
    · simp [Ent.ref, hz, hl, decR_D hd] at h
    · rw [hl] at h1; injection h1 with e1 e2; subst e1 e2; rw [hd] at h2; cases h2; exact ⟨j, h3, h4⟩
    · rw [hl] at h1; injection h1 with e1 e2; subst e1 e2; rw [(sp_R (decI_sp h2)).2] at hd; cases hd
  · rintro ⟨j, h1, h2⟩
    exact .inr (.inl ⟨hz, g, rest, c0, ov, j, hl, hd, h1, h2⟩)

def DeepE (W : World) (hdr : Nat → Value) (e : Ent) (x : Value) (o : Option Nat) : Prop :=
  e.fro = false ∧ e.sz = 0 ∧ ∃ q rest c0 ov, e.l = q :: rest ∧ decD q = some (c0, ov) ∧
    ((rest = [] ∧ o = none ∧ ∃ ao, x = .slice ao 0 0) ∨
     ∃ b off cap c, o = some b ∧ x = .slice (some ⟨b, off, none⟩) rest.length cap ∧ World.rowO W b c ∧ off + cap ≤ c.length ∧ rest.length ≤ cap ∧
      ∀ j v, j < rest.length → c[off + j]? = some v → v = hdr (dAt c0 ov j) ∧ ∃ a m n, v = .slice a m n)

def NestL (W : World) (ok : Nat → Prop) (hdr : Nat → Value) (rf : Option (Nat × Nat)) (rest : List PV) (vs : List Value) : Prop :=
  vs.length = rest.length ∧ ∀ j p v, rest[j]? = some p → vs[j]? = some v →
    (∀ i c, rf = some (i, c) → j = i → v = hdr c ∧ ∃ a m n, v = .slice a m n) ∧ ((∀ i c, rf = some (i, c) → j ≠ i) → RepC W ok p [v])

def NestE (W : World) (ok : Nat → Prop) (hdr : Nat → Value) (e : Ent) (x : Value) (o : Option Nat) : Prop :=
  e.fro = false ∧ e.sz = 0 ∧ ∃ q rest rf, e.l = q :: rest ∧ decR q = some rf ∧
    ((rest = [] ∧ o = none ∧ ∃ ao, x = .slice ao 0 0) ∨
     ∃ b off cap c, o = some b ∧ x = .slice (some ⟨b, off, none⟩) rest.length cap ∧ World.rowO W b c ∧ off + cap ≤ c.length ∧ rest.length ≤ cap ∧ NestL W ok hdr rf rest ((c.drop off).take rest.length))

def RepE3 (W : World) (ok : Nat → Prop) (e : Ent) (x : Value) (o : Option Nat) : Prop :=
  (e.fro = true ∧ RepC W ok (.sl e.sz e.l) [x] ∧ o = none) ∨
  (e.l = [] ∧ o = none ∧ ∃ ao, x = .slice ao 0 0) ∨
  (e.fro = false ∧ ∃ b off cap c, o = some b ∧ x = .slice (some ⟨b, off, none⟩) e.l.length cap ∧ World.rowO W b c ∧ off + cap * e.sz ≤ c.length ∧ e.l.length ≤ cap ∧
    RepL W ok e.sz e.l ((c.drop off).take (e.l.length * e.sz)))


def MapE (W : World) (ok : Nat → Prop) (e : Ent) (x : Value) (o : Option Nat) : Prop :=
  ∃ q rest b es, e.l = q :: rest ∧ decM q = true ∧ o = some b ∧ x = .map (some b) ∧ W.heap[b]? = some (.map es rest.length) ∧ es.size = rest.length ∧
    ∀ (j : Nat) p m, rest[j]? = some p → es[j]? = some m → m.born = j ∧ ∃ k v, p = .st [k, v] ∧ RepV W ok k m.key ∧ RepV W ok v m.val

def IterE (W : World) (hdr : Nat → Value) (e : Ent) (x : Value) (o : Option Nat) : Prop :=
  ∃ q rest b m n bm seen, e.l = q :: rest ∧ decI q = some (m, n) ∧ o = some b ∧ x = .pointer (some ⟨b, 0, none⟩) ∧ hdr m = .map (some bm) ∧ W.heap[b]? = some (.mapIter (some bm) n seen n) ∧
    rest = seen.toList.map fun j => .w (.int .i64 j)

/-- What is no row. -/
def SpE (W : World) (ok : Nat → Prop) (hdr : Nat → Value) (e : Ent) (x : Value) (o : Option Nat) : Prop :=
  e.fro = false ∧ e.sz = 0 ∧ (MapE W ok e x o ∨ IterE W hdr e x o)

theorem SpE.sp {W : World} {ok : Nat → Prop} {hdr : Nat → Value} {e : Ent} {x : Value} {o : Option Nat} (h : SpE W ok hdr e x o) : ∃ q rest, e.l = q :: rest ∧ sp q = true := by
  rcases h.2.2 with ⟨q, rest, _, _, h1, h2, _⟩ | ⟨q, rest, _, _, _, _, _, h1, h2, _⟩
  · exact ⟨q, rest, h1, decM_sp h2⟩
  · exact ⟨q, rest, h1, decI_sp h2⟩

theorem SpE.no {W : World} {ok : Nat → Prop} {hdr : Nat → Value} {e : Ent} {x : Value} {o : Option Nat} {g : PV} {rest : List PV} (hl : e.l = g :: rest) (hg : Go.AM.sp g = false) (h : SpE W ok hdr e x o) : False := by
  obtain ⟨q, rest', h1, h2⟩ := h.sp
  rw [hl] at h1; injection h1 with e1 _; subst e1; rw [hg] at h2; cases h2

def RepE (W : World) (ok : Nat → Prop) (hdr : Nat → Value) (e : Ent) (x : Value) (o : Option Nat) : Prop := ((e.sz = 0 → e.fro = true ∨ e.l = []) ∧ RepE3 W ok e x o) ∨ NestE W ok hdr e x o ∨ DeepE W hdr e x o ∨ SpE W ok hdr e x o

theorem RepE.plain {W : World} {ok : Nat → Prop} {hdr : Nat → Value} {e : Ent} {x : Value} {o : Option Nat} (r : RepE W ok hdr e x o) (hz : e.sz ≠ 0) : RepE3 W ok e x o := (r.resolve_right fun h => hz (h.elim (·.2.1) (·.elim (·.2.1) (·.2.1)))).2
theorem RepE.open {W : World} {ok : Nat → Prop} {hdr : Nat → Value} {e : Ent} {x : Value} {o : Option Nat} {g : PV} {rest : List PV} (r : RepE W ok hdr e x o) (hz : e.sz = 0) (hf : e.fro = false) (hl : e.l = g :: rest) (hg : sp g = false) : NestE W ok hdr e x o ∨ DeepE W hdr e x o := by
  rcases r with h | h | h | h
  · exact (h.1 hz).elim (fun h' => by rw [hf] at h'; cases h') (fun h' => by rw [hl] at h'; cases h')
  · exact .inl h
  · exact .inr h
  · exact (h.no hl hg).elim
theorem RepE.special {W : World} {ok : Nat → Prop} {hdr : Nat → Value} {e : Ent} {x : Value} {o : Option Nat} {g : PV} {rest : List PV} (r : RepE W ok hdr e x o) (hz : e.sz = 0) (hf : e.fro = false) (hl : e.l = g :: rest) (hg : sp g = true) : SpE W ok hdr e x o := by
  rcases r with h | h | h | h
  · exact (h.1 hz).elim (fun h' => by rw [hf] at h'; cases h') (fun h' => by rw [hl] at h'; cases h')
  · obtain ⟨_, _, q, rest', rf, h1, h2, _⟩ := h
    rw [hl] at h1; injection h1 with e1 _; subst e1; rw [(sp_R hg).1] at h2; cases h2
  · obtain ⟨_, _, q, rest', c0, ov, h1, h2, _⟩ := h
    rw [hl] at h1; injection h1 with e1 _; subst e1; rw [(sp_R hg).2] at h2; cases h2
  · exact h
theorem RepE.map {W : World} {ok : Nat → Prop} {hdr : Nat → Value} {e : Ent} {x : Value} {o : Option Nat} {g : PV} {rest : List PV} (r : RepE W ok hdr e x o) (hz : e.sz = 0) (hf : e.fro = false) (hl : e.l = g :: rest) (hg : decM g = true) :
    ∃ b es, o = some b ∧ x = .map (some b) ∧ W.heap[b]? = some (.map es rest.length) ∧ es.size = rest.length ∧
    ∀ (j : Nat) p m, rest[j]? = some p → es[j]? = some m → m.born = j ∧ ∃ k v, p = .st [k, v] ∧ RepV W ok k m.key ∧ RepV W ok v m.val := by
  rcases (r.special hz hf hl (decM_sp hg)).2.2 with ⟨q, rest', b, es, h1, h2, h3⟩ | ⟨q, rest', _, _, _, _, _, h1, h2, _⟩
  · rw [hl] at h1; injection h1 with e1 e2; subst e1 e2; exact ⟨b, es, h3⟩
  · rw [hl] at h1; injection h1 with e1 e2; subst e1 e2; rw [decM_I hg] at h2; cases h2
theorem RepE.iter {W : World} {ok : Nat → Prop} {hdr : Nat → Value} {e : Ent} {x : Value} {o : Option Nat} {g : PV} {rest : List PV} {m n : Nat} (r : RepE W ok hdr e x o) (hz : e.sz = 0) (hf : e.fro = false) (hl : e.l = g :: rest) (hg : decI g = some (m, n)) :
    ∃ b bm seen, o = some b ∧ x = .pointer (some ⟨b, 0, none⟩) ∧ hdr m = .map (some bm) ∧ W.heap[b]? = some (.mapIter (some bm) n seen n) ∧ rest = seen.toList.map fun j => .w (.int .i64 j) := by
  rcases (r.special hz hf hl (decI_sp hg)).2.2 with ⟨q, rest', b, es, h1, h2, h3⟩ | ⟨q, rest', b, m', n', bm, seen, h1, h2, h3⟩
  · rw [hl] at h1; injection h1 with e1 e2; subst e1 e2; rw [decM_I h2] at hg; cases hg
  · rw [hl] at h1; injection h1 with e1 e2; subst e1 e2; rw [hg] at h2; cases h2; exact ⟨b, bm, seen, h3⟩
theorem RepE.nest {W : World} {ok : Nat → Prop} {hdr : Nat → Value} {e : Ent} {x : Value} {o : Option Nat} {g : PV} {rest : List PV} {rf : Option (Nat × Nat)} (r : RepE W ok hdr e x o) (hz : e.sz = 0) (hf : e.fro = false) (hl : e.l = g :: rest) (hrf : decR g = some rf) : NestE W ok hdr e x o :=
  (r.open hz hf hl (sp_ofR hrf)).resolve_right fun h => by
    obtain ⟨_, _, q, rest', c0, ov, h1, h2, _⟩ := h
    rw [hl] at h1; injection h1 with e1 _; subst e1; rw [decD_R hrf] at h2; cases h2
theorem RepE.deep {W : World} {ok : Nat → Prop} {hdr : Nat → Value} {e : Ent} {x : Value} {o : Option Nat} {g : PV} {rest : List PV} {c0 : Nat} {ov : Option (Nat × Nat)} (r : RepE W ok hdr e x o) (hz : e.sz = 0) (hf : e.fro = false) (hl : e.l = g :: rest) (hd : decD g = some (c0, ov)) :
    (rest = [] ∧ o = none ∧ ∃ ao, x = .slice ao 0 0) ∨
     ∃ b off cap c, o = some b ∧ x = .slice (some ⟨b, off, none⟩) rest.length cap ∧ World.rowO W b c ∧ off + cap ≤ c.length ∧ rest.length ≤ cap ∧
      ∀ j v, j < rest.length → c[off + j]? = some v → v = hdr (dAt c0 ov j) ∧ ∃ a m n, v = .slice a m n := by
  rcases r.open hz hf hl (sp_ofD hd) with h | h
  · obtain ⟨_, _, q, rest', rf, h1, h2, _⟩ := h
    rw [hl] at h1; injection h1 with e1 _; subst e1; rw [decR_D hd] at h2; cases h2
  · obtain ⟨_, _, q, rest', c0', ov', h1, h2, h3⟩ := h
    rw [hl] at h1; injection h1 with e1 e2; subst e1 e2; rw [hd] at h2; cases h2; exact h3
/-- How a row of rows lies, of either kind. -/
theorem RepE.flat {W : World} {ok : Nat → Prop} {hdr : Nat → Value} {e : Ent} {x : Value} {o : Option Nat} {g : PV} {rest : List PV} (r : RepE W ok hdr e x o) (hz : e.sz = 0) (hf : e.fro = false) (hl : e.l = g :: rest) (hg : sp g = false) :
    (rest = [] ∧ o = none ∧ ∃ ao, x = .slice ao 0 0) ∨ ∃ b off cap c, o = some b ∧ x = .slice (some ⟨b, off, none⟩) rest.length cap ∧ World.rowO W b c ∧ off + cap ≤ c.length ∧ rest.length ≤ cap := by
  rcases r.open hz hf hl hg with h | h
  · obtain ⟨_, _, q, rest', rf, h1, h2, h3⟩ := h
    rw [hl] at h1; injection h1 with e1 e2; subst e1 e2
    exact h3.imp id fun ⟨b, off, cap, c, h1, h2, h3, h4, h5, _⟩ => ⟨b, off, cap, c, h1, h2, h3, h4, h5⟩
  · obtain ⟨_, _, q, rest', c0', ov', h1, h2, h3⟩ := h
    rw [hl] at h1; injection h1 with e1 e2; subst e1 e2
    exact h3.imp id fun ⟨b, off, cap, c, h1, h2, h3, h4, h5, _⟩ => ⟨b, off, cap, c, h1, h2, h3, h4, h5⟩
theorem Ent.ref_none {e : Ent} (hz : e.sz ≠ 0) : e.ref = none := by unfold Ent.ref; rw [if_neg hz]
theorem Ent.refs_none {e : Ent} {c : Nat} (hz : e.sz ≠ 0) : ¬ e.refs c := Ent.sol_refs (.inl hz)

/-- What was printed is the same; draws may have been made (told so where the statement chosen for all these texts holds). -/
def OutLe (W W' : World) : Prop := W'.output = W.output ∧ (dr.default → W.drawn ≤ W'.drawn)
theorem OutLe.refl (W : World) : OutLe W W := ⟨rfl, fun _ => Nat.le_refl _⟩
theorem OutLe.trans {W W' W'' : World} (h : OutLe W' W'') (h' : OutLe W W') : OutLe W W'' := ⟨h.1.trans h'.1, fun q => Nat.le_trans (h'.2 q) (h.2 q)⟩

structure Mem (C : Cx) (W : World) (H : Heap) (hdr : Nat → Value) (ow : Nat → Option Nat) : Prop where
  ent : ∀ id e, find H id = some e → RepE W (OK C W H ow) hdr e (hdr id) (ow id)
  inj : ∀ id id' e e' b, find H id = some e → find H id' = some e' → ow id = some b → ow id' = some b → id = id'
  lt : ∀ id e b, find H id = some e → ow id = some b → b < W.heap.size ∧ (C.own0 b ∨ C.W0.heap.size ≤ b)
  size : C.W0.heap.size ≤ W.heap.size
  frame : ∀ b, b < C.W0.heap.size → ¬ C.own0 b → W.heap[b]? = C.W0.heap[b]?
  os : W.os = C.W0.os
  tape : W.tape = C.W0.tape
  output : OutLe C.W0 W

/-- The state s tells of the frame's slots and of the world. F: the numbers of rows that were ever given; n: how many slots there are. -/
structure RelAt (C : Cx) (n : Nat) (F : Nat → Prop) (s : St) (a : Act) (W : World) (hdr : Nat → Value) (ow : Nat → Option Nat) : Prop where
  mem : Mem C W s.heap hdr ow
  defers : a.defers = []
  tsz : a.tmps.size = n
  env : ∀ t x, find s.env t = some x → RepA W (OK C W s.heap ow) hdr s.heap x (a.tmps.getD t undef)
  idsE : ∀ t x, find s.env t = some x → ∀ id, x.men id → F id
  idsH : ∀ id e, find s.heap id = some e → F id
  idsG : ∀ k, k < C.nin → F k
  gh : ∀ k, k < C.nin → ∀ e, find s.heap k = some e → hdr k = C.hdr0 k
  idsR : ∀ id e c, find s.heap id = some e → e.refs c → F c

def Rel (C : Cx) (n : Nat) (F : Nat → Prop) (s : St) (a : Act) (W : World) : Prop := ∃ hdr ow, RelAt C n F s a W hdr ow

section mono
variable {W W' : World} {ok ok' : Nat → Prop} {hdr hdr' : Nat → Value} {H H' : Heap}

mutual
theorem RepA.mono (h : ∀ b, ok b → ok' b ∧ W'.heap[b]? = W.heap[b]?) : ∀ (x : AV) (v : Value),
    (∀ id, x.men id → ∀ e', find H' id = some e' → ∃ e, find H id = some e ∧ hdr' id = hdr id ∧ e'.sz = e.sz) → RepA W ok hdr H x v → RepA W' ok' hdr' H' x v
  | .u, _, _, _ => by simp [RepA]
  | .ub, _, _, r => by simp only [RepA] at *; exact r
  | .v p, x, _, r => by simp only [RepA] at *; exact r.mono h
  | .h id, x, hm, r => by
    simp only [RepA, AV.men] at *
    intro e' he'
    obtain ⟨e, he, h1, h2⟩ := hm id rfl e' he'
    rw [h1]; exact r e he
  | .ptr id i off, x, hm, r => by
    simp only [RepA, AV.men] at *
    intro e' he'
    obtain ⟨e, he, h1, h2⟩ := hm id rfl e' he'
    rw [h1, Ent.w_congr h2]; exact r e he
  | .sub id lo n, x, hm, r => by
    simp only [RepA, AV.men] at *
    intro e' he'
    obtain ⟨e, he, h1, h2⟩ := hm id rfl e' he'
    rw [h1, Ent.w_congr h2]; exact r e he
  | .rp cs, x, _, r => by
    simp only [RepA] at *
    obtain ⟨b, o, c, hx, hb, hr, hl, hs⟩ := r
    exact ⟨b, o, c, hx, (h b hb).1, World.row_congr (h b hb).2 hr, hl.mono h, hs⟩
  | .fn f caps, x, hm, r => by
    simp only [RepA] at *
    obtain ⟨vs, hx, hr⟩ := r
    exact ⟨vs, hx, RepAs.mono h caps vs (by simpa [AV.men] using hm) hr⟩
  | .tup l, x, hm, r => by
    simp only [RepA] at *
    obtain ⟨vs, hx, hr⟩ := r
    exact ⟨vs, hx, RepAs.mono h l vs (by simpa [AV.men] using hm) hr⟩
theorem RepAs.mono (h : ∀ b, ok b → ok' b ∧ W'.heap[b]? = W.heap[b]?) : ∀ (l : List AV) (vs : List Value),
    (∀ id, AV.mens l id → ∀ e', find H' id = some e' → ∃ e, find H id = some e ∧ hdr' id = hdr id ∧ e'.sz = e.sz) → RepAs W ok hdr H l vs → RepAs W' ok' hdr' H' l vs
  | [], [], _, _ => by simp [RepAs]
  | [], _ :: _, _, r => by simp [RepAs] at r
  | _ :: _, [], _, r => by simp [RepAs] at r
  | x :: l, v :: vs, hm, r => by
    simp only [RepAs] at *
    exact ⟨RepA.mono h x v (fun id hi => hm id (by simp [AV.mens, hi])) r.1, RepAs.mono h l vs (fun id hi => hm id (by simp [AV.mens, hi])) r.2⟩
end

theorem RepE3.mono (h : ∀ b, ok b → ok' b ∧ W'.heap[b]? = W.heap[b]?) {e : Ent} {x : Value} {o : Option Nat} (ho : ∀ b, o = some b → W'.heap[b]? = W.heap[b]?) (r : RepE3 W ok e x o) : RepE3 W' ok' e x o := by
  rcases r with ⟨h1, h2, h3⟩ | h1 | ⟨hf, b, off, cap, c, h1, h2, h3, h4, h5, h6⟩
  · exact .inl ⟨h1, h2.mono h, h3⟩
  · exact .inr (.inl h1)
  · refine .inr (.inr ⟨hf, b, off, cap, c, h1, h2, ?_, h4, h5, h6.mono h⟩)
    obtain ⟨t, h3⟩ := h3
    exact ⟨t, (ho b h1).trans h3⟩

theorem NestL.mono (h : ∀ b, ok b → ok' b ∧ W'.heap[b]? = W.heap[b]?) {rf : Option (Nat × Nat)} {rest : List PV} {vs : List Value} (hh : ∀ i c, rf = some (i, c) → hdr' c = hdr c) (r : NestL W ok hdr rf rest vs) : NestL W' ok' hdr' rf rest vs :=
  ⟨r.1, fun j p v h1 h2 => ⟨fun i c e1 e2 => by rw [hh i c e1]; exact (r.2 j p v h1 h2).1 i c e1 e2, fun h3 => ((r.2 j p v h1 h2).2 h3).mono h⟩⟩

theorem NestE.mono (h : ∀ b, ok b → ok' b ∧ W'.heap[b]? = W.heap[b]?) {e : Ent} {x : Value} {o : Option Nat} (ho : ∀ b, o = some b → W'.heap[b]? = W.heap[b]?) (hh : ∀ c, e.refs c → hdr' c = hdr c) (r : NestE W ok hdr e x o) : NestE W' ok' hdr' e x o := by
  obtain ⟨hf, hz, q, rest, rf, hl, hq, r⟩ := r
  refine ⟨hf, hz, q, rest, rf, hl, hq, ?_⟩
  rcases r with r | ⟨b, off, cap, c, h1, h2, ⟨t, h3⟩, h4, h5, h6⟩
  · exact .inl r
  · refine .inr ⟨b, off, cap, c, h1, h2, ⟨t, (ho b h1).trans h3⟩, h4, h5, h6.mono h fun i c' e' => hh c' ?_⟩
    exact (Ent.refs_R hz hl hq).2 ⟨i, e'⟩

theorem DeepE.mono {e : Ent} {x : Value} {o : Option Nat} (ho : ∀ b, o = some b → W'.heap[b]? = W.heap[b]?) (hh : ∀ c, e.refs c → hdr' c = hdr c) (r : DeepE W hdr e x o) : DeepE W' hdr' e x o := by
  obtain ⟨hf, hz, q, rest, c0, ov, hl, hq, r⟩ := r
  refine ⟨hf, hz, q, rest, c0, ov, hl, hq, ?_⟩
  rcases r with r | ⟨b, off, cap, c, h1, h2, ⟨t, h3⟩, h4, h5, h6⟩
  · exact .inl r
  · refine .inr ⟨b, off, cap, c, h1, h2, ⟨t, (ho b h1).trans h3⟩, h4, h5, fun j v hj hv => ?_⟩
    rw [hh _ ((Ent.refs_D hz hl hq).2 ⟨j, hj, rfl⟩)]
    exact h6 j v hj hv

theorem SpE.mono (h : ∀ b, ok b → ok' b ∧ W'.heap[b]? = W.heap[b]?) {e : Ent} {x : Value} {o : Option Nat} (ho : ∀ b, o = some b → W'.heap[b]? = W.heap[b]?) (hh : ∀ c, e.refs c → hdr' c = hdr c) (r : SpE W ok hdr e x o) : SpE W' ok' hdr' e x o := by
  refine ⟨r.1, r.2.1, ?_⟩
  rcases r.2.2 with ⟨q, rest, b, es, h1, h2, h3, h4, h5, h6, h7⟩ | ⟨q, rest, b, m, n, bm, seen, h1, h2, h3, h4, h5, h6, h7⟩
  · refine .inl ⟨q, rest, b, es, h1, h2, h3, h4, (ho b h3).trans h5, h6, fun j p m hp hm => ?_⟩
    obtain ⟨g1, k, v, g2, g3, g4⟩ := h7 j p m hp hm
    exact ⟨g1, k, v, g2, g3.mono h, g4.mono h⟩
  · exact .inr ⟨q, rest, b, m, n, bm, seen, h1, h2, h3, h4, by rw [hh m ((Ent.refs_I r.2.1 h1 h2).2 rfl)]; exact h5, (ho b h3).trans h6, h7⟩

theorem RepE.mono (h : ∀ b, ok b → ok' b ∧ W'.heap[b]? = W.heap[b]?) {e : Ent} {x : Value} {o : Option Nat} (ho : ∀ b, o = some b → W'.heap[b]? = W.heap[b]?) (hh : ∀ c, e.refs c → hdr' c = hdr c) (r : RepE W ok hdr e x o) : RepE W' ok' hdr' e x o :=
  r.imp (fun q => ⟨q.1, q.2.mono h ho⟩) (Or.imp (·.mono h ho hh) (Or.imp (·.mono ho hh) (·.mono h ho hh)))
end mono

theorem getD_put {a : Act} {d : Tmp} {v : Value} (t : Nat) (h : d < a.tmps.size) : ((a.put (some d) v).tmps).getD t undef = if t = d then v else a.tmps.getD t undef := by
  unfold Act.put
  by_cases e : t = d
  · subst e; simp [Array.getD_eq_getD_getElem?, h]
  · simp [Array.getD_eq_getD_getElem?, Array.getElem?_setIfInBounds_ne (Ne.symm e), e]

section rel
variable {C : Cx} {n : Nat} {F : Nat → Prop} {s : St} {a : Act} {W : World} {hdr : Nat → Value} {ow : Nat → Option Nat}

theorem RelAt.tsz_put (r : RelAt C n F s a W hdr ow) (d : Option Tmp) (v : Value) : (a.put d v).tmps.size = n ∧ (a.put d v).defers = [] := by
  cases d <;> simp [Act.put, r.tsz, r.defers]

/-- A value into a slot. -/
theorem RelAt.put (r : RelAt C n F s a W hdr ow) {d : Tmp} (hd : d < n) {x : AV} {v : Value} (hx : RepA W (OK C W s.heap ow) hdr s.heap x v) (hm : ∀ id, x.men id → F id) :
    RelAt C n F { s with env := (d, x) :: s.env } (a.put (some d) v) W hdr ow := by
  refine ⟨r.mem, (r.tsz_put _ _).2, (r.tsz_put _ _).1, ?_, ?_, r.idsH, r.idsG, r.gh, r.idsR⟩
  · intro t y hy
    rw [getD_put t (by rw [r.tsz]; exact hd)]
    simp only [find_cons] at hy
    by_cases e : t = d
    · rw [if_pos e] at hy; cases hy; rw [if_pos e]; exact hx
    · rw [if_neg e] at hy; rw [if_neg e]; exact r.env t y hy
  · intro t y hy
    simp only [find_cons] at hy
    by_cases e : t = d
    · rw [if_pos e] at hy; cases hy; exact hm
    · rw [if_neg e] at hy; exact r.idsE t y hy

theorem RelAt.put_none (r : RelAt C n F s a W hdr ow) (v : Value) : RelAt C n F s (a.put none v) W hdr ow := r

/-- More numbers may have been given. -/
theorem RelAt.monoF {F' : Nat → Prop} (r : RelAt C n F s a W hdr ow) (h : ∀ id, F id → F' id) : RelAt C n F' s a W hdr ow :=
  ⟨r.mem, r.defers, r.tsz, r.env, fun t x hx id hi => h id (r.idsE t x hx id hi), fun id e he => h id (r.idsH id e he), fun k hk => h k (r.idsG k hk), r.gh, fun id e c h1 h2 => h c (r.idsR id e c h1 h2)⟩

/-- The operands. -/
inductive Opd where
  | t (n : Nat)
  | c (p : PV)
  | f (n : Nat)
  | im (r : Nat) (tab : List (Nat × Nat))
  | pl (r : Nat)

def ev (E : List (Nat × AV)) : Opd → Option AV
  | .t n => find E n
  | .c p => some (.v p)
  | .f n => some (.fn n [])
  | .im r tab => match find E r with
    | some (.v (.ifc t _)) => (find tab t).map fun f => .fn f []
    | _ => none
  | .pl r => match find E r with
    | some (.v (.ifc _ p)) => some (.v p)
    | _ => none

/-- A world with the same memory. -/
def Same (W W' : World) : Prop := W'.heap = W.heap ∧ W'.os = W.os ∧ W'.tape = W.tape ∧ OutLe W W'

theorem OK.same {W' : World} {H : Heap} (h : Same W W') (b : Nat) : OK C W' H ow b ↔ OK C W H ow b := by unfold OK; rw [h.1]

theorem RelAt.same {W' : World} (r : RelAt C n F s a W hdr ow) (h : Same W W') : RelAt C n F s a W' hdr ow := by
  have hb : ∀ b, OK C W s.heap ow b → OK C W' s.heap ow b ∧ W'.heap[b]? = W.heap[b]? := fun b hb => ⟨(OK.same h b).2 hb, by rw [h.1]⟩
  obtain ⟨h1, h2, h3, h4⟩ := h
  refine ⟨⟨?_, r.mem.inj, ?_, ?_, ?_, ?_, ?_, ?_⟩, r.defers, r.tsz, ?_, r.idsE, r.idsH, r.idsG, r.gh, r.idsR⟩
  · exact fun id e he => (r.mem.ent id e he).mono hb (fun b _ => by rw [h1]) (fun _ _ => rfl)
  · rw [h1]; exact r.mem.lt
  · rw [h1]; exact r.mem.size
  · rw [h1]; exact r.mem.frame
  · rw [h2]; exact r.mem.os
  · rw [h3]; exact r.mem.tape
  · exact h4.trans r.mem.output
  · exact fun t x hx => RepA.mono hb x _ (fun id _ e he => ⟨e, he, rfl, rfl⟩) (r.env t x hx)

end rel
end Go.AM
/- How the rows that a call owns change: made, written, given up, appended to. -/
set_option linter.all false
namespace Go.AM
open Go
variable [dr : Inhabited Prop]

/-- The cells c with news laid over from o on. -/
def lay (c : List Value) (o : Nat) (news : List Value) : List Value := c.take o ++ news ++ c.drop (o + news.length)

theorem lay_length {c : List Value} {o : Nat} {news : List Value} (h : o + news.length ≤ c.length) : (lay c o news).length = c.length := by
  simp [lay]; omega

theorem lay_nil (c : List Value) (o : Nat) : lay c o [] = c := by simp [lay]

theorem lay_cons {c : List Value} {o : Nat} {v : Value} {news : List Value} (h : o + (v :: news).length ≤ c.length) : lay c o (v :: news) = lay (c.set o v) (o + 1) news := by
  simp only [List.length_cons] at h
  have e1 : (c.set o v).take (o + 1) = c.take o ++ [v] := by
    rw [List.take_succ_eq_append_getElem (by simp; omega), List.take_set_of_le (Nat.le_refl _)]; simp
  have e2 : (c.set o v).drop (o + 1 + news.length) = c.drop (o + (news.length + 1)) := by
    rw [List.drop_set_of_lt (by omega)]; congr 1; omega
  simp only [lay, List.length_cons, e1, e2]
  simp

theorem setCells_row (b : Nat) : ∀ (news : List Value) (o : Nat) (c : List Value) (W : World), World.rowO W b c → o + news.length ≤ c.length →
    World.rowO (W.setCells b o news) b (lay c o news) ∧ (∀ k, k ≠ b → (W.setCells b o news).heap[k]? = W.heap[k]?) ∧ (W.setCells b o news).heap.size = W.heap.size ∧
      (W.setCells b o news).os = W.os ∧ (W.setCells b o news).tape = W.tape ∧ OutLe W (W.setCells b o news)
  | [], o, c, W, h, _ => by rw [lay_nil]; exact ⟨h, fun _ _ => rfl, rfl, rfl, rfl, .refl _⟩
  | v :: news, o, c, W, ⟨t, h⟩, hl => by
    have hl' : o + (news.length + 1) ≤ c.length := by simpa using hl
    have h' : World.rowO (W.setCell ⟨b, o, none⟩ v) b (c.set o v) := by
      refine ⟨t, ?_⟩
      rw [heap_setCell_same W b o c.toArray t v h]
      congr 2
      apply Array.ext'
      simp
    obtain ⟨r1, r2, r3, r4, r5, r6⟩ := setCells_row b news (o + 1) (c.set o v) (W.setCell ⟨b, o, none⟩ v) h' (by simp; omega)
    rw [lay_cons hl]
    refine ⟨r1, fun k hk => (r2 k hk).trans (heap_setCell_other W ⟨b, o, none⟩ k v hk), r3.trans (by simp), ?_, ?_, ?_⟩
    · exact r4.trans rfl
    · exact r5.trans rfl
    · exact r6.trans (OutLe.refl W)

section
variable {C : Cx} {n : Nat} {F : Nat → Prop} {s : St} {a : Act} {W : World} {hdr : Nat → Value} {ow : Nat → Option Nat}

/-- The state behind a change of the memory. -/
theorem RelAt.rebuild {W' : World} {H' : Heap} {hdr' : Nat → Value} {ow' : Nat → Option Nat} {F' : Nat → Prop} {m : Nat} (r : RelAt C n F s a W hdr ow) (me : Mem C W' H' hdr' ow')
    (hok : ∀ b, OK C W s.heap ow b → OK C W' H' ow' b ∧ W'.heap[b]? = W.heap[b]?)
    (hh : ∀ id, F id → ∀ e', find H' id = some e' → ∃ e, find s.heap id = some e ∧ hdr' id = hdr id ∧ e'.sz = e.sz)
    (hF : ∀ id e, find H' id = some e → F' id) (hFF : ∀ id, F id → F' id) (hR : ∀ id e c, find H' id = some e → e.refs c → F' c) : RelAt C n F' { s with heap := H', nx := m } a W' hdr' ow' :=
  ⟨me, r.defers, r.tsz, fun t x hx => RepA.mono hok x _ (fun id hi => hh id (r.idsE t x hx id hi)) (r.env t x hx), fun t x hx id hi => hFF id (r.idsE t x hx id hi), hF, fun k hk => hFF k (r.idsG k hk), fun k hk e he => by
    obtain ⟨e0, h1, h2, _⟩ := hh k (r.idsG k hk) e he
    rw [h2]; exact r.gh k hk e0 h1, hR⟩

def upd {α : Type} (f : Nat → α) (i : Nat) (x : α) (j : Nat) : α := if j = i then x else f j

theorem RelAt.fresh (r : RelAt C n F s a W hdr ow) {id : Nat} (h : ¬ F id) : find s.heap id = none := by
  cases e : find s.heap id with
  | none => rfl
  | some x => exact (h (r.idsH id x e)).elim

/-- A new row without a block. -/
theorem RelAt.allocNil (r : RelAt C n F s a W hdr ow) {id : Nat} (hid : ¬ F id) (sz : Nat) (ao : Option Addr) :
    RelAt C n (fun i => F i ∨ i = id) { s with heap := (id, ⟨false, sz, []⟩) :: s.heap } a W (upd hdr id (.slice ao 0 0)) (upd ow id none) := by
  have hn := r.fresh hid
  have hf : ∀ j e, find ((id, (⟨false, sz, []⟩ : Ent)) :: s.heap) j = some e → (j = id ∧ e = ⟨false, sz, []⟩) ∨ (j ≠ id ∧ find s.heap j = some e) := by
    intro j e h
    rw [find_cons] at h
    by_cases he : j = id
    · rw [if_pos he] at h; cases h; exact .inl ⟨he, rfl⟩
    · rw [if_neg he] at h; exact .inr ⟨he, h⟩
  have hok : ∀ b, OK C W s.heap ow b → OK C W ((id, (⟨false, sz, []⟩ : Ent)) :: s.heap) (upd ow id none) b := by
    rintro b ⟨h1, h2⟩
    refine ⟨h1, ?_⟩
    rintro ⟨j, e, hj, hb⟩
    rcases hf j e hj with ⟨rfl, rfl⟩ | ⟨hne, hj⟩
    · simp [upd] at hb
    · rw [upd, if_neg hne] at hb; exact h2 ⟨j, e, hj, hb⟩
  refine r.rebuild (m := s.nx) ⟨?_, ?_, ?_, r.mem.size, r.mem.frame, r.mem.os, r.mem.tape, r.mem.output⟩ (fun b hb => ⟨hok b hb, rfl⟩) ?_ ?_ (fun i h => .inl h) ?_
  · intro j e hj
    rcases hf j e hj with ⟨rfl, rfl⟩ | ⟨hne, hj⟩
    · exact .inl ⟨fun _ => .inr rfl, .inr (.inl ⟨rfl, by simp [upd], ao, by simp [upd]⟩)⟩
    · rw [upd, upd, if_neg hne, if_neg hne]; exact (r.mem.ent j e hj).mono (fun b hb => ⟨hok b hb, rfl⟩) (fun _ _ => rfl) (fun c hc => by rw [upd, if_neg (fun h => hid (by rw [← h]; exact r.idsR j e c hj hc))])
  · intro j j' e e' b hj hj' hb hb'
    rcases hf j e hj with ⟨rfl, rfl⟩ | ⟨hne, hj⟩
    · simp [upd] at hb
    rcases hf j' e' hj' with ⟨rfl, rfl⟩ | ⟨hne', hj'⟩
    · simp [upd] at hb'
    rw [upd, if_neg hne] at hb; rw [upd, if_neg hne'] at hb'
    exact r.mem.inj j j' e e' b hj hj' hb hb'
  · intro j e b hj hb
    rcases hf j e hj with ⟨rfl, rfl⟩ | ⟨hne, hj⟩
    · simp [upd] at hb
    rw [upd, if_neg hne] at hb
    exact r.mem.lt j e b hj hb
  · intro j hj e he
    rcases hf j e he with ⟨rfl, rfl⟩ | ⟨hne, he⟩
    · exact (hid hj).elim
    · exact ⟨e, he, by rw [upd, if_neg hne], rfl⟩
  · intro j e he
    rcases hf j e he with ⟨rfl, rfl⟩ | ⟨hne, he⟩
    · exact .inr rfl
    · exact .inl (r.idsH j e he)
  · intro j e c he hc
    rcases hf j e he with ⟨rfl, rfl⟩ | ⟨hne, he⟩
    · exact (Ent.refs_nil hc).elim
    · exact .inl (r.idsR j e c he hc)

theorem heap_alloc_lt (W : World) (o : Obj) {k : Nat} (h : k < W.heap.size) : (W.alloc o).heap[k]? = W.heap[k]? := by
  change (W.heap.push o)[k]? = _
  rw [Array.getElem?_push, if_neg (by omega)]

/-- A new row in a new block. -/
theorem RelAt.alloc (r : RelAt C n F s a W hdr ow) {id : Nat} (hid : ¬ F id) {sz cap : Nat} {l : List PV} {c : List Value} (t : TypeId) (hz : sz ≠ 0) (hc : cap * sz ≤ c.length) (hl : l.length ≤ cap)
    (hr : RepL W (OK C W s.heap ow) sz l (c.take (l.length * sz))) :
    RelAt C n (fun i => F i ∨ i = id) { s with heap := (id, ⟨false, sz, l⟩) :: s.heap } a (W.alloc (.cells c.toArray t)) (upd hdr id (.slice (some ⟨W.heap.size, 0, none⟩) l.length cap)) (upd ow id (some W.heap.size)) := by
  have hn := r.fresh hid
  have hf : ∀ j e, find ((id, (⟨false, sz, l⟩ : Ent)) :: s.heap) j = some e → (j = id ∧ e = ⟨false, sz, l⟩) ∨ (j ≠ id ∧ find s.heap j = some e) := by
    intro j e h
    rw [find_cons] at h
    by_cases he : j = id
    · rw [if_pos he] at h; cases h; exact .inl ⟨he, rfl⟩
    · rw [if_neg he] at h; exact .inr ⟨he, h⟩
  have hlt : ∀ b, b < W.heap.size → (W.alloc (.cells c.toArray t)).heap[b]? = W.heap[b]? := fun b h => heap_alloc_lt W _ h
  have hok : ∀ b, OK C W s.heap ow b → OK C (W.alloc (.cells c.toArray t)) ((id, (⟨false, sz, l⟩ : Ent)) :: s.heap) (upd ow id (some W.heap.size)) b ∧ (W.alloc (.cells c.toArray t)).heap[b]? = W.heap[b]? := by
    rintro b ⟨⟨h0, h1⟩, h2⟩
    refine ⟨⟨⟨h0, by simp; omega⟩, ?_⟩, hlt b h1⟩
    rintro ⟨j, e, hj, hb⟩
    rcases hf j e hj with ⟨rfl, rfl⟩ | ⟨hne, hj⟩
    · simp [upd] at hb; omega
    · rw [upd, if_neg hne] at hb; exact h2 ⟨j, e, hj, hb⟩
  refine r.rebuild (m := s.nx) ⟨?_, ?_, ?_, ?_, ?_, r.mem.os, r.mem.tape, r.mem.output⟩ hok ?_ ?_ (fun i h => .inl h) ?_
  · intro j e hj
    rcases hf j e hj with ⟨rfl, rfl⟩ | ⟨hne, hj⟩
    · refine .inl ⟨fun h => absurd h hz, .inr (.inr ⟨rfl, W.heap.size, 0, cap, c, by simp [upd], by simp [upd], ⟨t, ?_⟩, by simpa using hc, hl, ?_⟩)⟩
      · exact heap_alloc_new W _
      · simpa using hr.mono hok
    · rw [upd, upd, if_neg hne, if_neg hne]
      exact (r.mem.ent j e hj).mono hok (fun b hb => hlt b (r.mem.lt j e b hj hb).1) (fun c hc => by rw [upd, if_neg (fun h => hid (by rw [← h]; exact r.idsR j e c hj hc))])
  · intro j j' e e' b hj hj' hb hb'
    rcases hf j e hj with ⟨rfl, rfl⟩ | ⟨hne, hj⟩
    · rcases hf j' e' hj' with ⟨rfl, rfl⟩ | ⟨hne', hj'⟩
      · rfl
      · rw [upd, if_neg hne'] at hb'; simp [upd] at hb; have := (r.mem.lt j' e' b hj' hb').1; omega
    · rw [upd, if_neg hne] at hb
      have hlt2 := (r.mem.lt j e b hj hb).1
      rcases hf j' e' hj' with ⟨rfl, rfl⟩ | ⟨hne', hj2'⟩
      · simp only [upd, if_pos rfl] at hb'; cases hb'; omega
      · rw [upd, if_neg hne'] at hb'; exact r.mem.inj j j' e e' b hj hj2' hb hb'
  · intro j e b hj hb
    rcases hf j e hj with ⟨rfl, rfl⟩ | ⟨hne, hj⟩
    · simp [upd] at hb; subst hb; exact ⟨by simp, .inr r.mem.size⟩
    · rw [upd, if_neg hne] at hb
      have := r.mem.lt j e b hj hb
      exact ⟨by simp; omega, this.2⟩
  · have := r.mem.size; simp; omega
  · intro b hb ho; rw [hlt b (by have := r.mem.size; omega)]; exact r.mem.frame b hb ho
  · intro j hj e he
    rcases hf j e he with ⟨rfl, rfl⟩ | ⟨hne, he⟩
    · exact (hid hj).elim
    · exact ⟨e, he, by rw [upd, if_neg hne], rfl⟩
  · intro j e he
    rcases hf j e he with ⟨rfl, rfl⟩ | ⟨hne, he⟩
    · exact .inr rfl
    · exact .inl (r.idsH j e he)
  · intro j e c' he hc'
    rcases hf j e he with ⟨rfl, rfl⟩ | ⟨hne, he⟩
    · exact (Ent.refs_none (by exact hz) hc').elim
    · exact .inl (r.idsR j e c' he hc')

/-- A new block of any kind, of a row, a map or an iterator. -/
theorem RelAt.allocE (r : RelAt C n F s a W hdr ow) {id : Nat} (hid : ¬ F id) {e : Ent} (ob : Obj) (x : Value)
    (hE : RepE (W.alloc ob) (OK C W s.heap ow) (upd hdr id x) e x (some W.heap.size)) (hR : ∀ c, e.refs c → F c) :
    RelAt C n (fun i => F i ∨ i = id) { s with heap := (id, e) :: s.heap } a (W.alloc ob) (upd hdr id x) (upd ow id (some W.heap.size)) := by
  have hf : ∀ j y, find ((id, e) :: s.heap) j = some y → (j = id ∧ y = e) ∨ (j ≠ id ∧ find s.heap j = some y) := by
    intro j y h
    rw [find_cons] at h
    by_cases he : j = id
    · rw [if_pos he] at h; cases h; exact .inl ⟨he, rfl⟩
    · rw [if_neg he] at h; exact .inr ⟨he, h⟩
  have hlt : ∀ b, b < W.heap.size → (W.alloc ob).heap[b]? = W.heap[b]? := fun b h => heap_alloc_lt W _ h
  have hok : ∀ b, OK C W s.heap ow b → OK C (W.alloc ob) ((id, e) :: s.heap) (upd ow id (some W.heap.size)) b ∧ (W.alloc ob).heap[b]? = W.heap[b]? := by
    rintro b ⟨⟨h0, h1⟩, h2⟩
    refine ⟨⟨⟨h0, by simp; omega⟩, ?_⟩, hlt b h1⟩
    rintro ⟨j, y, hj, hb⟩
    rcases hf j y hj with ⟨rfl, rfl⟩ | ⟨hne, hj⟩
    · simp [upd] at hb; omega
    · rw [upd, if_neg hne] at hb; exact h2 ⟨j, y, hj, hb⟩
  refine r.rebuild (m := s.nx) ⟨?_, ?_, ?_, ?_, ?_, r.mem.os, r.mem.tape, r.mem.output⟩ hok ?_ ?_ (fun i h => .inl h) ?_
  · intro j y hj
    rcases hf j y hj with ⟨rfl, rfl⟩ | ⟨hne, hj⟩
    · have e1 : upd hdr j x j = x := by simp [upd]
      have e2 : upd ow j (some W.heap.size) j = some W.heap.size := by simp [upd]
      rw [e1, e2]
      exact hE.mono (fun b hb => ⟨(hok b hb).1, rfl⟩) (fun _ _ => rfl) (fun _ _ => rfl)
    · rw [upd, upd, if_neg hne, if_neg hne]
      exact (r.mem.ent j y hj).mono hok (fun b hb => hlt b (r.mem.lt j y b hj hb).1) (fun c hc => by rw [upd, if_neg (fun h => hid (by rw [← h]; exact r.idsR j y c hj hc))])
  · intro j j' y y' b hj hj' hb hb'
    rcases hf j y hj with ⟨rfl, rfl⟩ | ⟨hne, hj⟩
    · rcases hf j' y' hj' with ⟨rfl, rfl⟩ | ⟨hne', hj'⟩
      · rfl
      · rw [upd, if_neg hne'] at hb'; simp [upd] at hb; have := (r.mem.lt j' y' b hj' hb').1; omega
    · rw [upd, if_neg hne] at hb
      have hlt2 := (r.mem.lt j y b hj hb).1
      rcases hf j' y' hj' with ⟨rfl, rfl⟩ | ⟨hne', hj2'⟩
      · simp only [upd, if_pos rfl] at hb'; cases hb'; omega
      · rw [upd, if_neg hne'] at hb'; exact r.mem.inj j j' y y' b hj hj2' hb hb'
  · intro j y b hj hb
    rcases hf j y hj with ⟨rfl, rfl⟩ | ⟨hne, hj⟩
    · simp [upd] at hb; subst hb; exact ⟨by simp, .inr r.mem.size⟩
    · rw [upd, if_neg hne] at hb
      have := r.mem.lt j y b hj hb
      exact ⟨by simp; omega, this.2⟩
  · have := r.mem.size; simp; omega
  · intro b hb ho; rw [hlt b (by have := r.mem.size; omega)]; exact r.mem.frame b hb ho
  · intro j hj y he
    rcases hf j y he with ⟨rfl, rfl⟩ | ⟨hne, he⟩
    · exact (hid hj).elim
    · exact ⟨y, he, by rw [upd, if_neg hne], rfl⟩
  · intro j y he
    rcases hf j y he with ⟨rfl, rfl⟩ | ⟨hne, he⟩
    · exact .inr rfl
    · exact .inl (r.idsH j y he)
  · intro j y c' he hc'
    rcases hf j y he with ⟨rfl, rfl⟩ | ⟨hne, he⟩
    · exact .inl (hR c' hc')
    · exact .inl (r.idsR j y c' he hc')

/-- The block b, of the row id, holds something else. -/
theorem RelAt.writeE (r : RelAt C n F s a W hdr ow) {id : Nat} {e e' : Ent} (he : find s.heap id = some e) {W' : World} {b : Nat} (hb : ow id = some b) (hs : e'.sz = e.sz)
    (h2 : ∀ k, k ≠ b → W'.heap[k]? = W.heap[k]?) (h3 : W'.heap.size = W.heap.size) (h4 : W'.os = W.os) (h5 : W'.tape = W.tape) (h6 : OutLe W W')
    (hE : RepE W' (OK C W s.heap ow) hdr e' (hdr id) (some b)) (hR : ∀ c, e'.refs c → F c) :
    RelAt C n F { s with heap := setIn s.heap id e' } a W' hdr ow := by
  have hf : ∀ j x, find (setIn s.heap id e') j = some x → (j = id ∧ x = e') ∨ (j ≠ id ∧ find s.heap j = some x) := by
    intro j x h
    rw [find_setIn] at h
    by_cases hj : j = id
    · rw [if_pos hj, he] at h; simp at h; exact .inl ⟨hj, h.symm⟩
    · rw [if_neg hj] at h; exact .inr ⟨hj, h⟩
  have hf' : ∀ j x, find (setIn s.heap id e') j = some x → ∃ y, find s.heap j = some y ∧ x.sz = y.sz := by
    intro j x h
    rcases hf j x h with ⟨rfl, rfl⟩ | ⟨_, h⟩
    · exact ⟨e, he, hs⟩
    · exact ⟨x, h, rfl⟩
  have hob : ∀ k, OK C W s.heap ow k → k ≠ b := by rintro k ⟨_, hk⟩ rfl; exact hk ⟨id, e, he, hb⟩
  have hok0 : ∀ k, OK C W s.heap ow k → OK C W' (setIn s.heap id e') ow k := by
    intro k hk
    refine ⟨by rw [h3]; exact hk.1, ?_⟩
    rintro ⟨j, x, hj, ho⟩
    obtain ⟨y, hy, _⟩ := hf' j x hj
    exact hk.2 ⟨j, y, hy, ho⟩
  have hok : ∀ k, OK C W s.heap ow k → OK C W' (setIn s.heap id e') ow k ∧ W'.heap[k]? = W.heap[k]? := fun k hk => ⟨hok0 k hk, h2 k (hob k hk)⟩
  refine r.rebuild (m := s.nx) ⟨?_, ?_, ?_, ?_, ?_, h4.trans r.mem.os, h5.trans r.mem.tape, h6.trans r.mem.output⟩ hok ?_ ?_ (fun i h => h) ?_
  · intro j x hj
    rcases hf j x hj with ⟨rfl, rfl⟩ | ⟨hne, hj⟩
    · rw [hb]; exact hE.mono (fun k hk => ⟨hok0 k hk, rfl⟩) (fun _ _ => rfl) (fun _ _ => rfl)
    · refine (r.mem.ent j x hj).mono hok (fun k hk => h2 k ?_) (fun _ _ => rfl)
      rintro rfl
      exact hne (r.mem.inj j id x e k hj he hk hb)
  · intro j j' x x' k hj hj' hk hk'
    obtain ⟨y, hy, _⟩ := hf' j x hj
    obtain ⟨y', hy', _⟩ := hf' j' x' hj'
    exact r.mem.inj j j' y y' k hy hy' hk hk'
  · intro j x k hj hk
    obtain ⟨y, hy, _⟩ := hf' j x hj
    rw [h3]; exact r.mem.lt j y k hy hk
  · rw [h3]; exact r.mem.size
  · intro k hk ho
    rw [h2 k ?_]
    · exact r.mem.frame k hk ho
    · rintro rfl
      rcases (r.mem.lt id e k he hb).2 with h | h
      · exact ho h
      · omega
  · intro j _ x hj
    obtain ⟨y, hy, hs⟩ := hf' j x hj
    exact ⟨y, hy, rfl, hs⟩
  · intro j x hj
    obtain ⟨y, hy, hs⟩ := hf' j x hj
    exact r.idsH j y hy
  · intro j x c hj hc
    rcases hf j x hj with ⟨rfl, rfl⟩ | ⟨hne, hj⟩
    · exact hR c hc
    · exact r.idsR j x c hj hc

theorem RelAt.write (r : RelAt C n F s a W hdr ow) {id : Nat} {e : Ent} (he : find s.heap id = some e) {W' : World} {b off cap : Nat} {c' : List Value} {l' : List PV} (hz : e.sz ≠ 0) (hb : ow id = some b)
    (hx : hdr id = .slice (some ⟨b, off, none⟩) e.l.length cap) (hl : l'.length = e.l.length) (hfr : e.fro = false) (hcap : e.l.length ≤ cap)
    (h1 : World.rowO W' b c') (h2 : ∀ k, k ≠ b → W'.heap[k]? = W.heap[k]?) (h3 : W'.heap.size = W.heap.size) (h4 : W'.os = W.os) (h5 : W'.tape = W.tape) (h6 : OutLe W W')
    (h7 : off + cap * e.sz ≤ c'.length) (h8 : RepL W (OK C W s.heap ow) e.sz l' ((c'.drop off).take (l'.length * e.sz))) :
    RelAt C n F { s with heap := setIn s.heap id { e with l := l' } } a W' hdr ow := by
  refine r.writeE (e' := { e with l := l' }) he hb rfl h2 h3 h4 h5 h6 (.inl ⟨fun h => absurd h hz, .inr (.inr ⟨hfr, b, off, cap, c', rfl, ?_, h1, h7, ?_, ?_⟩)⟩) (fun c hc => ?_)
  · rw [hx]; simp only [hl]
  · simpa only [hl] using hcap
  · refine h8.mono fun k hk => ⟨hk, h2 k ?_⟩
    rintro rfl; exact hk.2 ⟨id, e, he, hb⟩
  · exact (Ent.refs_none (by exact hz) hc).elim

/-- What an owned row is, as a shared value. -/
theorem RepE3.shared {W : World} {ok ok' : Nat → Prop} {e : Ent} {x : Value} {o : Option Nat} (r : RepE3 W ok e x o) (h : ∀ b, ok b → ok' b) (ho : ∀ b, o = some b → ok' b) : RepC W ok' (.sl e.sz e.l) [x] := by
  have hm : ∀ b, ok b → ok' b ∧ W.heap[b]? = W.heap[b]? := fun b hb => ⟨h b hb, rfl⟩
  rcases r with ⟨h1, h2, h3⟩ | ⟨h1, h2, ao, h3⟩ | ⟨hf, b, off, cap, c, h1, h2, ⟨t, h3⟩, h4, h5, h6⟩
  · exact h2.mono hm
  · rw [h1, h3]; exact .nil
  · rw [h2]; exact .sl (ho b h1) ⟨t, (0, 0), h3⟩ h4 h5 (h6.mono hm)

/-- An owned row is written no more. -/
theorem RelAt.freeze (r : RelAt C n F s a W hdr ow) {id : Nat} {e : Ent} (he : find s.heap id = some e) (hz : e.sz ≠ 0) :
    RelAt C n F { s with heap := setIn s.heap id { e with fro := true } } a W hdr (upd ow id none) := by
  have hf : ∀ j x, find (setIn s.heap id { e with fro := true }) j = some x → (j = id ∧ x = { e with fro := true }) ∨ (j ≠ id ∧ find s.heap j = some x) := by
    intro j x h
    rw [find_setIn] at h
    by_cases hj : j = id
    · rw [if_pos hj, he] at h; simp at h; exact .inl ⟨hj, h.symm⟩
    · rw [if_neg hj] at h; exact .inr ⟨hj, h⟩
  have hok : ∀ k, OK C W s.heap ow k → OK C W (setIn s.heap id { e with fro := true }) (upd ow id none) k := by
    rintro k ⟨h1, h2⟩
    refine ⟨h1, ?_⟩
    rintro ⟨j, x, hj, ho⟩
    rcases hf j x hj with ⟨rfl, rfl⟩ | ⟨hne, hj⟩
    · simp [upd] at ho
    · rw [upd, if_neg hne] at ho; exact h2 ⟨j, x, hj, ho⟩
  have hfree : ∀ b, ow id = some b → OK C W (setIn s.heap id { e with fro := true }) (upd ow id none) b := by
    intro b hb
    refine ⟨⟨.inr (r.mem.lt id e b he hb).2, (r.mem.lt id e b he hb).1⟩, ?_⟩
    rintro ⟨j, x, hj, ho⟩
    rcases hf j x hj with ⟨rfl, rfl⟩ | ⟨hne, hj⟩
    · simp [upd] at ho
    · rw [upd, if_neg hne] at ho; exact hne (r.mem.inj j id x e b hj he ho hb)
  refine r.rebuild (m := s.nx) ⟨?_, ?_, ?_, r.mem.size, r.mem.frame, r.mem.os, r.mem.tape, r.mem.output⟩ (fun k hk => ⟨hok k hk, rfl⟩) ?_ ?_ (fun i h => h) ?_
  · intro j x hj
    rcases hf j x hj with ⟨rfl, rfl⟩ | ⟨hne, hj⟩
    · exact .inl ⟨fun _ => .inl rfl, .inl ⟨rfl, ((r.mem.ent j e he).plain hz).shared hok hfree, by simp [upd]⟩⟩
    · rw [upd, if_neg hne]; exact (r.mem.ent j x hj).mono (fun k hk => ⟨hok k hk, rfl⟩) (fun _ _ => rfl) (fun _ _ => rfl)
  · intro j j' x x' k hj hj' hk hk'
    rcases hf j x hj with ⟨rfl, rfl⟩ | ⟨hne, hj⟩
    · simp [upd] at hk
    rcases hf j' x' hj' with ⟨rfl, rfl⟩ | ⟨hne', hj'⟩
    · simp [upd] at hk'
    rw [upd, if_neg hne] at hk; rw [upd, if_neg hne'] at hk'
    exact r.mem.inj j j' x x' k hj hj' hk hk'
  · intro j x k hj hk
    rcases hf j x hj with ⟨rfl, rfl⟩ | ⟨hne, hj⟩
    · simp [upd] at hk
    rw [upd, if_neg hne] at hk
    exact r.mem.lt j x k hj hk
  · intro j _ x hj
    rcases hf j x hj with ⟨rfl, rfl⟩ | ⟨hne, hj⟩
    · exact ⟨e, he, rfl, rfl⟩
    · exact ⟨x, hj, rfl, rfl⟩
  · intro j x hj
    rcases hf j x hj with ⟨rfl, rfl⟩ | ⟨hne, hj⟩
    · exact r.idsH j e he
    · exact r.idsH j x hj
  · intro j x c hj hc
    rcases hf j x hj with ⟨rfl, rfl⟩ | ⟨hne, hj⟩
    · exact (Ent.refs_none (by exact hz) hc).elim
    · exact r.idsR j x c hj hc

/-- An owned row is given up. -/
theorem RelAt.drop (r : RelAt C n F s a W hdr ow) (id : Nat) : RelAt C n F { s with heap := strike s.heap id } a W hdr ow := by
  have hf : ∀ j x, find (strike s.heap id) j = some x → j ≠ id ∧ find s.heap j = some x := by
    intro j x h
    rw [find_strike] at h
    by_cases hj : j = id
    · rw [if_pos hj] at h; cases h
    · rw [if_neg hj] at h; exact ⟨hj, h⟩
  have hok : ∀ k, OK C W s.heap ow k → OK C W (strike s.heap id) ow k := by
    rintro k ⟨h1, h2⟩
    exact ⟨h1, fun ⟨j, x, hj, ho⟩ => h2 ⟨j, x, (hf j x hj).2, ho⟩⟩
  refine r.rebuild (m := s.nx) ⟨?_, ?_, ?_, r.mem.size, r.mem.frame, r.mem.os, r.mem.tape, r.mem.output⟩ (fun k hk => ⟨hok k hk, rfl⟩) ?_ ?_ (fun i h => h) (fun j x c hj hc => r.idsR j x c (hf j x hj).2 hc)
  · exact fun j x hj => (r.mem.ent j x (hf j x hj).2).mono (fun k hk => ⟨hok k hk, rfl⟩) (fun _ _ => rfl) (fun _ _ => rfl)
  · exact fun j j' x x' k hj hj' hk hk' => r.mem.inj j j' x x' k (hf j x hj).2 (hf j' x' hj').2 hk hk'
  · exact fun j x k hj hk => r.mem.lt j x k (hf j x hj).2 hk
  · exact fun j _ x hj => ⟨x, (hf j x hj).2, rfl, rfl⟩
  · exact fun j x hj => r.idsH j x (hf j x hj).2

end
end Go.AM
/- The operations of the walk: their texts, what they come to, and how the program's own operations are read as them. -/
set_option linter.all false
namespace Go.AM
open Go
variable [dr : Inhabited Prop]

inductive MOp where
  | mv (x : Opd)
  | nilS (sz : Nat)
  | pick (c a b : Opd)
  | bin (op : BinOp) (x y : Opd)
  | un (op : UnOp) (x : Opd)
  | len (str : Bool) (x : Opd)
  | mm (mx : Bool) (x y : Opd)
  | eqb (ng : Bool) (x y : Opd)
  | six (x i : Opd)
  | sls (x : Opd) (lo hi : Option Opd)
  | slc (own : Bool) (sz : Nat) (x : Opd) (lo hi : Option Opd)
  | sl0 (sz : Nat) (x : Opd)
  | slcP (sz : Nat) (x : Opd) (lo hi : Option Opd)
  | clr (sz : Nat) (agg : Bool) (z : List PV) (x : Opd)
  | ia (sz : Nat) (x i : Opd)
  | iaA (n sz : Nat) (x i : Opd)
  | fa (off : Nat) (x : Opd)
  | fld (agg : Bool) (off sz : Nat) (x : Opd)
  | aix (agg : Bool) (n sz : Nat) (x i : Opd)
  | ld (agg : Bool) (sz : Nat) (x : Opd)
  | stt (agg : Bool) (sz : Nat) (x v : Opd)
  | box (ld : Bool) (x : Opd)
  | alloc (agg : Bool) (z : List PV)
  | alcN (z : List PV)
  | build (ld : Bool) (z : List PV) (parts : List (Nat × Nat × Opd))
  | buildS (ld : Bool) (sz n : Nat) (agg : Bool) (z : List PV) (parts : List (Nat × Opd))
  | app (sz bytes : Nat) (x y : Opd)
  | cln (sz bytes : Nat) (y : Opd)
  | clnV (sz bytes : Nat) (y : Opd)
  | eqS (ng : Bool) (ks : List Bool) (x y : Opd)
  | mm3 (mx : Bool) (x y z : Opd)
  | mkS (sz bytes : Nat) (agg : Bool) (z : List PV) (n c : Opd)
  | ext (x : Opd) (i : Nat)
  | conv (k : IntKind) (x : Opd)
  | cvS (x : Opd)
  | chk (x : Opd)
  | mkf (f : Nat) (caps : List Opd)
  | nilq (ng : Bool) (x : Opd)
  | mki (t : Nat) (x : Opd)
  | asrt (t : Nat) (ok : Bool) (x : Opd)
  | appX (fz : Bool) (c d sz bytes : Nat) (x y : Opd)
  | buildV (sz n : Nat) (agg : Bool) (z : List PV) (parts : List (Nat × Opd))
  | mup (ag : Bool) (ks : List Bool) (x k v : Opd)
  | mkM
  | mlk (ag : Bool) (ks : List Bool) (ok : Bool) (z : PV) (x k : Opd)
  | mln (x : Opd)
  | rng (x : Opd)
  | ent (x : Opd)
  | ldR (sz : Nat) (x : Opd)

/-- An operation, or a call, with its guard and its slot. -/
inductive MO where
  | op (g : Option (Nat × Bool)) (d : Nat) (m : MOp)
  | store (g : Option (Nat × Bool)) (m : MOp)
  | call (g : Option (Nat × Bool)) (d : Nat) (f : Opd) (args : List Opd)
  | inc (d1 d2 d3 d4 : Nat) (ag : Bool) (ks : List Bool) (x k : Opd)

inductive MC where
  | skip
  | reg (q : Bool) (ops : List MO)
  | seq (a b : MC)
  | cond (c : Opd) (a b : MC)
  | block (id : Nat) (b : MC)
  | loop (b : MC)
  | exit (id : Nat)
  | ret
  | bad
  | next (d1 d2 : Nat) (x : Opd)

/-! ### What they come to -/
abbrev Env := List (Nat × AV)

@[simp] def PV.i (n : Int) : PV := .w (.int .i64 n)
@[simp] def PV.b (x : Bool) : PV := .w (.bool x)
@[simp] def PV.s (x : ByteArray) : PV := .w (.string x)

def shV (op : BinOp) (k : IntKind) (a b : Int) : Option Value :=
  if b < 0 then none else match op with
    | .shl => some (.int k (k.wrap (a * 2 ^ min b.toNat k.bits)))
    | .shr => some (.int k (a.fdiv (2 ^ min b.toNat k.bits)))
    | _ => none

/-- The bits of two numbers put together. -/
def orI (k : IntKind) (a b : Int) : Int := k.wrap ((BitVec.ofInt k.bits a ||| BitVec.ofInt k.bits b).toNat : Int)

def intBin (op : BinOp) (k : IntKind) (a b : Int) : Option Value :=
  match op with
  | .add => some (.int k (k.wrap (a + b)))
  | .sub => some (.int k (k.wrap (a - b)))
  | .mul => some (.int k (k.wrap (a * b)))
  | .quo => if b = 0 then none else some (.int k (k.wrap (a.tdiv b)))
  | .rem => if b = 0 then none else some (.int k (a.tmod b))
  | .eql => some (.bool (decide (a = b)))
  | .neq => some (.bool (!decide (a = b)))
  | .lss => some (.bool (decide (a < b)))
  | .leq => some (.bool (decide (a ≤ b)))
  | .gtr => some (.bool (decide (a > b)))
  | .geq => some (.bool (decide (a ≥ b)))
  | .shl => shV .shl k a b
  | .shr => shV .shr k a b
  | .or => some (.int k (orI k a b))
  | _ => none

def slt (x y : ByteArray) : Bool := Op.bytesLess x.toList y.toList

def strBin (op : BinOp) (a b : ByteArray) : Option Value :=
  match op with
  | .add => if a.size + b.size ≤ 1000000000000 then some (.string (a ++ b)) else none
  | .eql => some (.bool (decide (a = b)))
  | .neq => some (.bool (!decide (a = b)))
  | .lss => some (.bool (slt a b))
  | .leq => some (.bool (slt a b || decide (a = b)))
  | .gtr => some (.bool (!(slt a b || decide (a = b))))
  | .geq => some (.bool (!slt a b))
  | _ => none

def binV (op : BinOp) : Value → Value → Option Value
  | .int k a, .int k' b => if k = k' then intBin op k a b else shV op k a b
  | .string a, .string b => strBin op a b
  | _, _ => none

def binA (op : BinOp) : AV → AV → Option AV
  | .v (.w a), .v (.w b) => (binV op a b).map fun v => .v (.w v)
  | _, _ => none

def unA (op : UnOp) : AV → Option AV
  | .v (.w (.bool b)) => match op with | .not => some (.v (.w (.bool (!b)))) | _ => none
  | .v (.w (.int k a)) => match op with | .neg => some (.v (.w (.int k (k.wrap (0 - a))))) | _ => none
  | _ => none

/-- The row that a value is: its cells an element, its elements. -/
def rdRow (H : Heap) : AV → Option (Nat × List PV)
  | .v (.sl sz l) => some (sz, l)
  | .h id => match find H id with
    | some e => if e.sz = 0 then none else some (e.sz, e.l)
    | none => none
  | _ => none

/-- How long a row of rows is. -/
def nlen (H : Heap) : AV → Option Nat
  | .h id => match find H id with
    | some e => if e.sz = 0 ∧ e.fro = false then (match e.l with | g :: rest => if sp g = true then none else some rest.length | [] => none) else none
    | none => none
  | _ => none

/-- A value to be kept: a row that the call owned is written no more. -/
def tov (q : Bool) (H : Heap) : AV → Option (PV × Heap)
  | .v p => some (p, H)
  | .h id => match find H id with
    | some e => if e.sz = 0 then none else if e.fro = true then some (.sl e.sz e.l, H) else if q = true then none else some (.sl e.sz e.l, setIn H id { e with fro := true })
    | none => none
  | .fn f [] => some (.w (.func (.func f) #[] #[]), H)
  | _ => none

/-- What a function value holds, to be kept: a box is written no more. -/
def capV (H : Heap) : AV → Option (PV × Heap)
  | .rp cs => some (.pt cs, H)
  | .ptr id i o => match find H id with
    | some e => if e.sz = 0 then none else match e.l[i]? with
      | some w => some (.pt (w.cells.drop o), if e.fro = true then H else setIn H id { e with fro := true })
      | none => none
    | none => none
  | _ => none

def capVs (H : Heap) : List AV → Option (List PV × Heap)
  | [] => some ([], H)
  | x :: l => match capV H x with
    | some (p, H1) => match capVs H1 l with
      | some (ps, H2) => some (p :: ps, H2)
      | none => none
    | none => none

def tov2 (q : Bool) (H : Heap) : AV → Option (PV × Heap)
  | .fn f (c :: cs) => if q = true then none else (capVs H (c :: cs)).map fun (ps, H') => (.cl f ps, H')
  | x => tov q H x

def cellRd (cs : List PV) (agg : Bool) (off sz : Nat) : Option PV :=
  if agg = true then (if off + sz ≤ cs.length then some (.st ((cs.drop off).take sz)) else none) else cs[off]?

def layP {α : Type} (c : List α) (o : Nat) (news : List α) : List α := c.take o ++ news ++ c.drop (o + news.length)

def mkEl (q : PV) (cs : List PV) : PV := if q.isSt = true then .st cs else cs.headD q

def asI : AV → Option Int
  | .v (.w (.int _ n)) => some n
  | _ => none

def zOf (agg : Bool) (z : List PV) : PV := if agg = true then .st z else z.headD (.st z)

def buildP (q : Bool) (E : Env) : List PV → Heap → List (Nat × Nat × Opd) → Option (List PV × Heap)
  | cs, H, [] => some (cs, H)
  | cs, H, (off, sz, x) :: ps =>
    match (ev E x).bind (tov q H) with
    | some (p, H') => if p.cells.length = sz ∧ off + sz ≤ cs.length then buildP q E (layP cs off p.cells) H' ps else none
    | none => none

def buildL (q : Bool) (E : Env) (sz : Nat) : List PV → Heap → List (Nat × Opd) → Option (List PV × Heap)
  | cs, H, [] => some (cs, H)
  | cs, H, (i, x) :: ps =>
    match (ev E x).bind (tov q H) with
    | some (p, H') => if p.cells.length = sz ∧ i < cs.length then buildL q E sz (cs.set i p) H' ps else none
    | none => none

def evs (E : Env) : List Opd → Option (List AV)
  | [] => some []
  | x :: l => match ev E x, evs E l with
    | some a, some as => some (a :: as)
    | _, _ => none

/-- The bounds of a cut. -/
def bnds (E : Env) (n : Nat) (lo hi : Option Opd) : Option (Nat × Nat) :=
  match (match hi with | none => some (n : Int) | some x => (ev E x).bind asI), (match lo with | none => some (0 : Int) | some x => (ev E x).bind asI) with
  | some h, some l => if 0 ≤ l ∧ l ≤ h ∧ h ≤ n then some (l.toNat, h.toNat) else none
  | _, _ => none

/-- The first entry of a row of rows: element i is row c. -/
@[reducible] def encR (i c : Nat) : PV := .st [.w (.int .i64 i), .w (.int .i64 c)]

/-- The first entry of a row of rows all elements of which are owned: element j is row c0 + j (but element i is row c). -/
@[reducible] def encD (c0 : Nat) : PV := .st [.w (.bool true), .w (.int .i64 c0)]
@[reducible] def encP (c0 i c : Nat) : PV := .st [.w (.bool true), .w (.int .i64 c0), .w (.int .i64 i), .w (.int .i64 c)]

/-- Whether all elements are older than a number. -/
def dOld (c0 : Nat) (ov : Option (Nat × Nat)) (n id : Nat) : Bool := decide (c0 + 5000 ≤ id) && decide (n ≤ 3000) && (match ov with | some (_, c) => decide (c + 1024 ≤ id) | none => true)

theorem dOld_at {c0 n id j : Nat} {ov : Option (Nat × Nat)} (h : dOld c0 ov n id = true) (hj : j < n) : dAt c0 ov j + 1024 ≤ id := by
  unfold dOld at h
  simp only [Bool.and_eq_true, decide_eq_true_eq] at h
  obtain ⟨⟨h1, h2⟩, h3⟩ := h
  cases ov with
  | none => simp only [dAt]; omega
  | some p =>
    obtain ⟨i, c⟩ := p
    simp only [decide_eq_true_eq] at h3
    simp only [dAt]
    split <;> omega

theorem setIn_nil {α : Type} (t : Nat) (v : α) : setIn ([] : List (Nat × α)) t v = [] := rfl
theorem setIn_cons {α : Type} (k : Nat) (x : α) (l : List (Nat × α)) (t : Nat) (v : α) : setIn ((k, x) :: l) t v = (if k = t then (t, v) else (k, x)) :: setIn l t v := rfl

/-- An element of a row of rows. -/
def ldX (q : Bool) (id : Nat) (l : List PV) (agg : Bool) (sz i o : Nat) : Option AV :=
  match l with
  | h :: rest => if agg = false ∧ sz = 1 ∧ i = 0 then (match decR h, rest[o]? with
    | some (some (j, c)), some p => if o = j then (if q = true ∧ ¬ c + 1024 ≤ id then none else some (.h c)) else if p.isSt = true then none else some (.v p)
    | some none, some p => if p.isSt = true then none else some (.v p)
    | none, some _ => (match decD h with
      | some (c0, ov) => if q = true ∧ dOld c0 ov rest.length id = false then none else some (.h (dAt c0 ov o))
      | none => none)
    | _, _ => none) else none
  | [] => none

/-- Cells of a row of rows (of a box kept so), written. -/
def sttM (q : Bool) (H1 : Heap) (k i o : Nat) (e : Ent) (p : PV) : Option (AV × Heap) :=
  match e.l with
  | g :: rest => if q = false ∧ i = 0 ∧ e.fro = false ∧ p.cells.length ≠ 0 ∧ o + p.cells.length ≤ rest.length then (match decR g with
      | some none => some (.u, setIn H1 k ⟨false, 0, .st [] :: layP rest o p.cells⟩)
      | some (some (j, c)) => if o ≤ j ∧ j < o + p.cells.length then some (.u, setIn H1 k ⟨false, 0, .st [] :: layP rest o p.cells⟩) else some (.u, setIn H1 k ⟨false, 0, encR j c :: layP rest o p.cells⟩)
      | none => none) else none
  | [] => none

/-- A row of rows whose one row is written no more. -/
def derefN (H : Heap) (k : Nat) (e : Ent) : Option (List PV × Heap) :=
  match e.l with
  | g :: rest => match decR g with
    | some none => some (rest, H)
    | some (some (j, c)) => match tov false H (.h c) with
      | some (p, H1) => if c ≠ k ∧ j < rest.length then some (rest.set j p, setIn H1 k ⟨false, 0, .st [] :: rest.set j p⟩) else none
      | none => none
    | none => none
  | [] => none

def noSt : List PV → Bool
  | [] => true
  | p :: l => !p.isSt && noSt l

/-- The nil slice is an empty row. -/
def denl : PV → PV
  | .nl => .sl 1 []
  | p => p

/-- All cells of a box that is kept as a row of rows. -/
def ldS (q : Bool) (H : Heap) (k : Nat) (e : Ent) (sz i o : Nat) : Option (AV × Heap) :=
  if q = false ∧ i = 0 ∧ sz ≠ 0 then match derefN H k e with
    | some (rest, H') => if o + sz ≤ rest.length ∧ noSt rest = true then some (.v (.st (((rest.drop o).take sz).map denl)), H') else none
    | none => none
  else none

/-- A box none of whose cells is an owned row. -/
def derefQ (H : Heap) (e : Ent) : Option (List PV × Heap) :=
  match e.l with
  | g :: rest => if decR g = some none then some (rest, H) else none
  | [] => none

/-- The same, the nil slices told as they are. -/
def ldSR (q : Bool) (H : Heap) (k : Nat) (e : Ent) (sz i o : Nat) : Option (AV × Heap) :=
  if i = 0 ∧ sz ≠ 0 then match (if q = true then derefQ H e else derefN H k e) with
    | some (rest, H') => if o + sz ≤ rest.length ∧ noSt rest = true then some (.v (.st ((rest.drop o).take sz)), H') else none
    | none => none
  else none

/-- A row becomes an element of a row of rows. -/
def sttN (q : Bool) (H : Heap) (k i o c : Nat) : Option (AV × Heap) :=
  match find H k, find H c with
  | some e, some ec => match e.l with
    | h :: rest => if q = false ∧ i = 0 ∧ e.fro = false ∧ e.sz = 0 ∧ ec.sz ≠ 0 ∧ o < rest.length then (match decR h with
      | some none => some (.u, setIn H k ⟨false, 0, encR o c :: rest⟩)
      | some (some (j, _)) => if j = o then some (.u, setIn H k ⟨false, 0, encR o c :: rest⟩) else none
      | none => (match decD h with
        | some (c0, none) => some (.u, setIn H k ⟨false, 0, encP c0 o c :: rest⟩)
        | some (c0, some (j, _)) => if j = o then some (.u, setIn H k ⟨false, 0, encP c0 o c :: rest⟩) else none
        | none => none)) else none
    | [] => none
  | _, _ => none

/-- Whether structs of scalars are equal. -/
def eqCells : List Bool → List PV → List PV → Option Bool
  | [], [], [] => some true
  | true :: ks, .w (.int k a) :: l, .w (.int k' b) :: m => if k = k' then (eqCells ks l m).map fun r => decide (a = b) && r else none
  | false :: ks, .w (.string a) :: l, .w (.string b) :: m => (eqCells ks l m).map fun r => decide (a = b) && r
  | _, _, _ => none

/-- The first entry of a map, of an iterator over the map m of n entries. -/
@[reducible] def mkM : PV := .st [.w (.string ⟨#[]⟩)]
@[reducible] def mkI (m n : Nat) : PV := .st [.w (.string ⟨#[]⟩), .w (.int .i64 m), .w (.int .i64 n)]

/-- Whether keys are equal; ks: their kinds. -/
def keq (ag : Bool) (ks : List Bool) : PV → PV → Option Bool
  | .st a, .st b => if ag = true then eqCells ks a b else none
  | .w a, .w b => if ag = true then none else eqCells ks [.w a] [.w b]
  | _, _ => none

/-- Whether a key is one of that kind. -/
def kok (ag : Bool) (ks : List Bool) (k : PV) : Bool := (keq ag ks k k).isSome

/-- The value of a key. -/
def mfind (ag : Bool) (ks : List Bool) (k : PV) : List PV → Option (Option PV)
  | [] => some none
  | .st [k', v] :: l => match keq ag ks k k' with
    | some true => some (some v)
    | some false => mfind ag ks k l
    | none => none
  | _ :: _ => none

/-- A key gets a value. -/
def mset (ag : Bool) (ks : List Bool) (k v : PV) : List PV → Option (List PV)
  | [] => some [.st [k, v]]
  | .st [k', v'] :: l => match keq ag ks k k' with
    | some true => some (.st [k, v] :: l)
    | some false => (mset ag ks k v l).map (.st [k', v'] :: ·)
    | none => none
  | _ :: _ => none

/-- The entries of a map that is owned. -/
def mrest (H : Heap) (m : Nat) : Option (List PV) := match find H m with
  | some e => if e.sz = 0 ∧ e.fro = false then (match e.l with | g :: rest => if decM g = true then some rest else none | [] => none) else none
  | none => none

/-- The iterator: its map, how many entries that has, and what was come to. -/
def irest (H : Heap) (i : Nat) : Option (Nat × Nat × List PV) := match find H i with
  | some e => if e.sz = 0 ∧ e.fro = false then (match e.l with | g :: rest => (decI g).map fun (m, n) => (m, n, rest) | [] => none) else none
  | none => none

/-- What an operation comes to. q: alone what leaves the rows that there are as they were. -/
def mval (q : Bool) (E : Env) (H : Heap) (id : Nat) : MOp → Option (AV × Heap)
  | .mv x => (ev E x).map fun a => (a, H)
  | .nilS sz => some (.h id, (id, ⟨false, sz, []⟩) :: H)
  | .pick c a b => match ev E c with
    | some (.v (.w (.bool t))) => (ev E (if t = true then a else b)).map fun a => (a, H)
    | _ => none
  | .bin op x y => match ev E x, ev E y with
    | some a, some b => (binA op a b).map fun a => (a, H)
    | _, _ => none
  | .un op x => match ev E x with
    | some a => (unA op a).map fun a => (a, H)
    | _ => none
  | .len true x => match ev E x with
    | some (.v (.w (.string s))) => some (.v (.w (.int .i64 s.size)), H)
    | _ => none
  | .len false x => match ev E x with
    | some (.sub k _ m) => if (find H k).isSome = true then some (.v (.w (.int .i64 m)), H) else none
    | some a => match rdRow H a with
      | some (_, l) => some (.v (.w (.int .i64 l.length)), H)
      | none => match nlen H a with
        | some n => some (.v (.w (.int .i64 n)), H)
        | none => none
    | none => none
  | .mm mx x y => match ev E x, ev E y with
    | some (.v (.w (.int k a))), some (.v (.w (.int k' b))) => some (.v (.w (.int k (if mx = true then (if b > a then b else a) else (if b < a then b else a)))), H)
    | some (.v (.w (.string a))), some (.v (.w (.string b))) => some (.v (.w (.string (if mx = true then (if slt a b = true then b else a) else (if slt a b = true ∨ a = b then a else b)))), H)
    | _, _ => none
  | .eqb ng x y => match ev E x, ev E y with
    | some (.v (.w (.bool a))), some (.v (.w (.bool b))) => some (.v (.w (.bool (if ng = true then !(a == b) else a == b))), H)
    | _, _ => none
  | .six x i => match ev E x, (ev E i).bind asI with
    | some (.v (.w (.string s))), some n => if 0 ≤ n then (s.data.toList[n.toNat]?).map fun c => (.v (.w (.int .u8 c.toNat)), H) else none
    | _, _ => none
  | .sls x lo hi => match ev E x with
    | some (.v (.w (.string s))) => (bnds E s.size lo hi).map fun (l, h) => (.v (.w (.string (s.extract l h))), H)
    | _ => none
  | .slc own sz x lo hi => match ev E x with
    | some a => match rdRow H a with
      | some (sz', l) => if sz' = sz then
          match bnds E l.length lo hi with
          | some (i, j) =>
            if own = true then (match a with
              | .h k => match find H k with
                | some e => if e.fro = true ∨ q = true then none else some (.h id, (id, ⟨false, sz, (l.take j).drop i⟩) :: strike H k)
                | none => none
              | _ => none)
            else (tov q H a).map fun (_, H') => (.v (.sl sz ((l.take j).drop i)), H')
          | none => none
        else none
      | none => none
    | none => none
  | .sl0 sz x => match ev E x with
    | some a => match rdRow H a with
      | some _ => some (.h id, (id, ⟨false, sz, []⟩) :: H)
      | none => none
    | none => none
  | .slcP sz x lo hi => match ev E x with
    | some (.h k) => match find H k with
      | some e => match bnds E e.l.length lo hi with
        | some (i, j) => if q = false ∧ e.fro = false ∧ e.sz = sz ∧ sz ≠ 0 ∧ i < e.l.length then some (.sub k i (j - i), H) else none
        | none => none
      | none => none
    | _ => none
  | .clr sz agg z x => match ev E x with
    | some (.sub k lo m) => match find H k with
      | some e => if q = false ∧ e.fro = false ∧ e.sz = sz ∧ sz ≠ 0 ∧ m ≠ 0 ∧ lo + m ≤ e.l.length then some (.u, setIn H k { e with l := e.l.take lo ++ List.replicate m (zOf agg z) ++ e.l.drop (lo + m) }) else none
      | none => none
    | _ => none
  | .ia sz x i => match ev E x, (ev E i).bind asI with
    | some (.sub k lo m), some n => match find H k with
      | some e => if 0 ≤ n ∧ n < m ∧ e.sz = sz then some (.ptr k (lo + n.toNat) 0, H) else none
      | none => none
    | some (.v (.sl sz' l)), some n => if 0 ≤ n ∧ sz' = sz then (l[n.toNat]?).map fun p => (.rp p.cells, H) else none
    | some (.h k), some n => match find H k with
      | some e => if e.sz = 0 then (if sz = 1 ∧ 0 ≤ n ∧ e.fro = false ∧ n.toNat + 1 < e.l.length ∧ isSp e.l = false then some (.ptr k 0 n.toNat, H) else none) else if 0 ≤ n ∧ e.sz = sz then (e.l[n.toNat]?).map fun p => (if e.fro = true then .rp p.cells else .ptr k n.toNat 0, H) else none
      | none => none
    | _, _ => none
  | .iaA n sz x i => match ev E x, (ev E i).bind asI with
    | some (.ptr k a o), some j => if 0 ≤ j ∧ j < n ∧ (find H k).isSome = true then some (.ptr k a (o + j.toNat * sz), H) else none
    | some (.rp cs), some j => if 0 ≤ j ∧ j < n then some (.rp (cs.drop (j.toNat * sz)), H) else none
    | _, _ => none
  | .fa off x => match ev E x with
    | some (.ptr k a o) => if (find H k).isSome = true then some (.ptr k a (o + off), H) else none
    | some (.rp cs) => some (.rp (cs.drop off), H)
    | _ => none
  | .fld agg off sz x => match ev E x with
    | some (.v (.st cs)) => (cellRd cs agg off sz).map fun p => (.v p, H)
    | _ => none
  | .aix agg n sz x i => match ev E x, (ev E i).bind asI with
    | some (.v (.st cs)), some j => if 0 ≤ j ∧ j < n then (cellRd cs agg (j.toNat * sz) sz).map fun p => (.v p, H) else none
    | _, _ => none
  | .ld agg sz x => match ev E x with
    | some (.rp cs) => (cellRd cs agg 0 sz).map fun p => (.v p, H)
    | some (.ptr k i o) => match find H k with
      | some e => if e.sz = 0 then (if e.fro = false then (if agg = true then ldS q H k e sz i o else (ldX q id e.l agg sz i o).map fun a => (a, H)) else none) else match e.l[i]? with
        | some w => if o < e.sz then (cellRd w.cells agg o sz).map fun p => (.v p, H) else none
        | none => none
      | none => none
    | _ => none
  | .stt agg sz x v => if sz = 0 then (match ev E x, ev E v with
    | some (.ptr k i o), some (.h c) => sttN q H k i o c
    | _, _ => none) else match ev E x, (ev E v).bind (tov2 q H) with
    | some (.ptr k i o), some (p, H1) => match find H1 k with
      | some e => if e.sz = 0 then (if p.isSt = agg ∧ p.cells.length = sz then sttM q H1 k i o e p else none) else match e.l[i]? with
        | some w => if e.fro = false ∧ p.isSt = agg ∧ p.cells.length = sz ∧ o + sz ≤ w.cells.length ∧ w.cells.length = e.sz ∧ q = false ∧ e.sz ≠ 0 then
            some (.u, setIn H1 k { e with l := e.l.set i (mkEl w (layP w.cells o p.cells)) }) else none
        | none => none
      | none => none
    | _, _ => none
  | .box _ x => match (ev E x).bind (tov q H) with
    | some (p, H1) => if p.cells.length = 0 then none else some (.ptr id 0 0, (id, ⟨false, p.cells.length, [p]⟩) :: H1)
    | none => none
  | .alloc agg z => some (.ptr id 0 0, (id, ⟨false, z.length, [zOf agg z]⟩) :: H)
  | .alcN z => some (.ptr id 0 0, (id, ⟨false, 0, .st [] :: z⟩) :: H)
  | .build _ z ps => (buildP q E z H ps).map fun (cs, H') => (.v (.st cs), H')
  | .buildS _ sz n agg z ps => (buildL q E sz (List.replicate n (zOf agg z)) H ps).map fun (l, H') => (.h id, (id, ⟨false, sz, l⟩) :: H')
  | .app sz bytes x y => match ev E x, ev E y with
    | some (.h k), some b => match find H k, rdRow H b with
      | some e, some (sz', ys) => if e.fro = false ∧ e.sz = sz ∧ sz' = sz ∧ (e.l.length + ys.length + 1000) * bytes ≤ 70368744177664 ∧ q = false ∧ sz ≠ 0 then
          some (.h id, (id, ⟨false, sz, e.l ++ ys⟩) :: strike H k) else none
      | _, _ => none
    | some (.v .nl), some b => match rdRow H b with
      | some (sz', ys) => if sz' = sz ∧ (ys.length + 1000) * bytes ≤ 70368744177664 ∧ q = false ∧ sz ≠ 0 then some (.h id, (id, ⟨false, sz, ys⟩) :: H) else none
      | none => none
    | _, _ => none
  | .cln sz bytes y => match ev E y with
    | some b => match rdRow H b with
      | some (sz', ys) => if sz' = sz ∧ (ys.length + 1000) * bytes ≤ 70368744177664 then some (.h id, (id, ⟨false, sz, ys⟩) :: H) else none
      | none => none
    | none => none
  | .clnV sz bytes y => match ev E y with
    | some b => match rdRow H b with
      | some (sz', ys) => if sz' = sz ∧ (ys.length + 1000) * bytes ≤ 70368744177664 then some (.v (.sl sz ys), H) else none
      | none => none
    | none => none
  | .eqS ng ks x y => match ev E x, ev E y with
    | some (.v (.st a)), some (.v (.st b)) => (eqCells ks a b).map fun r => (.v (.w (.bool (if ng = true then !r else r))), H)
    | _, _ => none
  | .mm3 mx x y z => match ev E x, ev E y, ev E z with
    | some (.v (.w (.int k a))), some (.v (.w (.int _ b))), some (.v (.w (.int _ c))) =>
      some (.v (.w (.int k (if mx = true then (if c > (if b > a then b else a) then c else (if b > a then b else a)) else (if c < (if b < a then b else a) then c else (if b < a then b else a))))), H)
    | _, _, _ => none
  | .mkS sz bytes agg z n c => match (ev E n).bind asI, (ev E c).bind asI with
    | some n, some c => if 0 ≤ n ∧ n ≤ c ∧ c * bytes ≤ 70368744177664 ∧ c ≤ 1000000000000 then some (.h id, (id, ⟨false, sz, List.replicate n.toNat (zOf agg z)⟩) :: H) else none
    | _, _ => none
  | .ext x i => match ev E x with
    | some (.tup l) => (l[i]?).map fun a => (a, H)
    | _ => none
  | .conv k x => match ev E x with
    | some (.v (.w (.int _ n))) => some (.v (.w (.int k (k.wrap n))), H)
    | _ => none
  | .cvS x => match ev E x with
    | some (.v (.w (.string b))) => some (.v (.w (.string b)), H)
    | _ => none
  | .chk x => match ev E x with
    | some (.ptr k i o) => if (find H k).isSome = true then some (.ptr k i o, H) else none
    | some (.rp cs) => some (.rp cs, H)
    | some (.fn f cs) => some (.fn f cs, H)
    | _ => none
  | .mkf f caps => (evs E caps).map fun l => (.fn f l, H)
  | .nilq ng x => match ev E x with
    | some (.v .nl) => some (.v (.w (.bool (!ng))), H)
    | some u => match rdRow H u with
      | some (_, l) => some (if l.isEmpty = true then .ub else .v (.w (.bool ng)), H)
      | none => none
    | none => none
  | .mki t x => match ev E x with
    | some u => (tov q H u).map fun (p, H') => (.v (.ifc t p), H')
    | none => none
  | .asrt t ok x => match ev E x with
    | some (.v (.ifc t' p)) => if t' = t then some (if ok = true then .tup [.v p, .v (.w (.bool true))] else .v p, H) else if ok = true then some (.tup [.u, .v (.w (.bool false))], H) else none
    | some (.v (.w .nilIface)) => if ok = true then some (.tup [.u, .v (.w (.bool false))], H) else none
    | _ => none
  | .appX fz c d sz bytes x y => match ev E x, ev E y with
    | some (.h k), some b => match find H k, rdRow H b with
      | some e, some (sz', ys) => if e.fro = false ∧ e.sz = sz ∧ sz' = sz ∧ (e.l.length + ys.length + 1000) * bytes ≤ 70368744177664 ∧ q = false ∧ sz ≠ 0 ∧ k + d = id + c then
          some (if fz = true then (.v (.sl sz (e.l ++ ys)), strike H k) else (.h id, (id, ⟨false, sz, e.l ++ ys⟩) :: strike H k)) else none
      | _, _ => none
    | _, _ => none
  | .buildV sz n agg z ps => if sz = 0 then none else (buildL true E sz (List.replicate n (zOf agg z)) H ps).map fun (l, _) => (.v (.sl sz l), H)
  | .mup ag ks x k v => match ev E x, ev E k, (ev E v).bind (tov2 q H) with
    | some (.h m), some (.v kp), some (p, H1) => match mrest H1 m with
      | some rest => if q = false ∧ kok ag ks kp = true then (mset ag ks kp p rest).map fun rest' => (.u, setIn H1 m ⟨false, 0, mkM :: rest'⟩) else none
      | none => none
    | _, _, _ => none
  | .mkM => some (.h id, (id, ⟨false, 0, [mkM]⟩) :: H)
  | .mlk ag ks ok z x k => match ev E x, ev E k with
    | some (.h m), some (.v kp) => match mrest H m with
      | some rest => if kok ag ks kp = false then none else match mfind ag ks kp rest with
        | some (some p) => some (if ok = true then .tup [.v p, .v (.w (.bool true))] else .v p, H)
        | some none => some (if ok = true then .tup [.v z, .v (.w (.bool false))] else .v z, H)
        | none => none
      | none => none
    | _, _ => none
  | .mln x => match ev E x with
    | some (.h m) => (mrest H m).map fun rest => (.v (.w (.int .i64 rest.length)), H)
    | _ => none
  | .rng x => match ev E x with
    | some (.h m) => (mrest H m).map fun rest => (.h id, (id, ⟨false, 0, [mkI m rest.length]⟩) :: H)
    | _ => none
  | .ent x => if q = true then none else match ev E x with
    | some (.h i) => match irest H i with
      | some (m, n, seen) => match mrest H m, seen.getLast? with
        | some rest, some (.w (.int _ j)) => if rest.length = n then (match rest[j.toNat]? with
          | some (.st [k, v]) => some (.tup [.v k, .v v], H)
          | _ => none) else none
        | _, _ => none
      | none => none
    | _ => none
  | .ldR sz x => match ev E x with
    | some (.ptr k i o) => match find H k with
      | some e => if e.sz = 0 ∧ e.fro = false then ldSR q H k e sz i o else none
      | none => none
    | _ => none

/-! ### Reading the program's operations -/
section
variable (P : Program) (ows : List Nat)

def szT (t : TypeId) : Nat := P.cellsOf t
def aggT (t : TypeId) : Bool := match P.underlying t with | some (.struct _) | some (.array _ _) => true | _ => false
def knownT (t : TypeId) : Bool := (P.info? t).isSome && (P.underlying t).isSome
def elemT (t : TypeId) : Option TypeId := match P.underlying t with | some (.slice e) => some e | _ => none
def elSz (t : TypeId) : Nat := match elemT P t with | some e => szT P e | none => 1

def constC : Value → Option PV
  | .slice none 0 0 => some (.sl 1 [])
  | v => if scal v = true then some (.w v) else none

def mapO {α β : Type} (f : α → Option β) : List α → Option (List β)
  | [] => some []
  | x :: l => match f x, mapO f l with
    | some y, some ys => some (y :: ys)
    | _, _ => none

/-- No type: the constant nil slice is told as itself. -/
def nilT : TypeId := 1000000007

def constP (t : TypeId) : Value → Option PV
  | .slice none 0 0 => if t = nilT then some .nl else some (.sl (elSz P t) [])
  | .agg cs => (mapO constC cs.toList).map .st
  | v => if scal v = true then some (.w v) else none

def opd (t : TypeId) : Operand → Option Opd
  | .tmp n => some (.t n)
  | .func f => some (.f f)
  | .const (.func (.func f) a b) => if a.size = 0 ∧ b.size = 0 then some (.f f) else none
  | .const v => (constP P t v).map .c
  | .global _ => none

def constZ (sz : Nat) : Value → Option PV
  | .slice none 0 0 => some (.sl sz [])
  | v => if scal v = true then some (.w v) else none
def mapZ : List Nat → List Value → Option (List PV)
  | _, [] => some []
  | s, v :: vs => match constZ (s.headD 1) v, mapZ s.tail vs with
    | some p, some ps => some (p :: ps)
    | _, _ => none
/-- How many cells the elements take of the slices in a zero value. -/
def szs (t : TypeId) : List Nat := match P.underlying t with
  | some (.slice _) => [elSz P t]
  | some (.struct fs) => (List.range (szT P t)).map fun k => match fs.find? (fun f => f.offset == k) with
    | some f => elSz P f.type
    | none => 1
  | _ => []
def zeroP (t : TypeId) : Option (List PV) := match P.info? t with
  | some i => match i.zero with
    | some z => mapZ (szs P t) z.cells.toList
    | none => none
  | none => none

/-- A zero value whose slices are told to be nil. -/
def constN : Value → Option PV
  | .slice none 0 0 => some .nl
  | v => if scal v = true then some (.w v) else none
def zeroN (t : TypeId) : Option (List PV) := match P.info? t with
  | some i => match i.zero with
    | some z => mapO constN z.cells.toList
    | none => none
  | none => none
def zeroB (b : Bool) (t : TypeId) : Option (List PV) := if b = true then zeroN P t else zeroP P t

/-- A slot that the caller marks. -/
def ldF (o : Oper) : Bool := match o.dst with | some d => ows.contains d | none => false

def ldN (o : Oper) : Bool := match o.dst with | some d => ows.contains (400000 + d) | none => false

def ldV (o : Oper) : Bool := match o.dst with | some d => ows.contains (600000 + d) | none => false

def ldB (o : Oper) : Bool := match o.dst with | some d => ows.contains (900000 + d) | none => false

def ldY (o : Oper) : Bool := match o.dst with | some d => ows.contains (500000 + d) | none => false

def ldZ (o : Oper) : Bool := match o.dst with | some d => ows.contains (800000 + d) | none => false

def ldRw (o : Oper) : Bool := match o.dst with | some d => ows.contains (1200000 + d) | none => false

def isNilSlice : Value → Bool | .slice none 0 0 => true | _ => false

def isNilC : Operand → Bool | .const v => isNilSlice v | _ => false

/-- The kinds of the fields of a struct whose fields are numbers and texts. -/
def eqK1 (f : Field) : Option Bool := if f.name ≠ "_" ∧ knownT P f.type = true ∧ szT P f.type = 1 then (match P.underlying f.type with | some (.int _) => some true | some .string => some false | _ => none) else none
def eqF (fs : Array Field) : Option (List Bool) := if fs.toList.map (·.offset) = List.range' 0 fs.toList.length then mapO (eqK1 P) fs.toList else none

/-- An append to a row that the slot of its own region holds. -/
def apX (o : Oper) (x : Opd) : Option (Nat × Nat) := match x, o.dst with
  | .t tx, some d => if ows.contains (700000 + d) = true then some (tx, d) else none
  | _, _ => none

/-- Whether a type is a kind of number. -/
def intElem (e : TypeId) : Bool := match P.underlying e with | some (.int _) => true | _ => false

mutual
/-- The kinds of the cells of a key. -/
def keyKs (P : Program) : Nat → TypeId → Option (List Bool)
  | 0, _ => none
  | f + 1, t => if knownT P t = true then (match P.underlying t with
    | some (.int _) => if szT P t = 1 then some [true] else none
    | some .string => if szT P t = 1 then some [false] else none
    | some (.struct fs) => if P.stoodInHeld t = false then (match keyFs P f 0 fs.toList with | some ks => if ks.length = szT P t then some ks else none | none => none) else none
    | some (.array m e) => match keyKs P f e with
      | some ks => if szT P e = ks.length ∧ szT P t = m * ks.length then some (List.replicate m ks).flatten else none
      | none => none
    | _ => none) else none
def keyFs (P : Program) : Nat → Nat → List Field → Option (List Bool)
  | _, _, [] => some []
  | 0, _, _ :: _ => none
  | f + 1, off, x :: fs => if x.offset = off ∧ x.name ≠ "_" then (match keyKs P f x.type with
    | some ks => if szT P x.type = ks.length then (match keyFs P f (off + ks.length) fs with
      | some l => some (ks ++ l)
      | none => none) else none
    | none => none) else none
end

/-- The zero value of a type, as a value. -/
def zeroV (t : TypeId) : Option PV := match P.info? t with
  | some i => i.zero.bind (constP P t)
  | none => none

def cMv (x : Operand) (t : TypeId) : Option MOp :=
  match x with
  | .const v => if isNilSlice v = true then (elemT P t).map fun e => .nilS (szT P e) else (opd P t x).map .mv
  | _ => (opd P t x).map .mv

def optO (x : Option Operand) : Option (Option Opd) := match x with | none => some none | some x => (opd P 0 x).map some

def cOp (o : Oper) : Option MOp :=
  match o.op with
  | .move x | .assign x => cMv P x o.type
  | .pick c a b => match opd P 0 c, opd P o.type a, opd P o.type b with
    | some c, some a, some b => some (.pick c a b)
    | _, _, _ => none
  | .binOp op t x y _ => match opd P t x, opd P t y with
    | some a, some b => match P.underlying t with
      | some .bool => match op with
        | .eql => some (.eqb false a b)
        | .neq => some (.eqb true a b)
        | _ => none
      | some (.struct fs) => match eqF P fs with
        | some ks => if P.stoodInHeld t = false ∧ P.eqGuardType P.depth t = false then (match op with
          | .eql => some (.eqS false ks a b)
          | .neq => some (.eqS true ks a b)
          | _ => none) else none
        | none => none
      | some (.array m e) => if intElem P e = true ∧ knownT P e = true ∧ szT P e = 1 ∧ P.eqGuardType P.depth t = false then (match op with
          | .eql => some (.eqS false (List.replicate m true) a b)
          | .neq => some (.eqS true (List.replicate m true) a b)
          | _ => none) else none
      | some (.slice _) => if isNilC y = true then (match op with
          | .eql => some (.nilq false a)
          | .neq => some (.nilq true a)
          | _ => none) else none
      | _ => some (.bin op a b)
    | _, _ => none
  | .unOp op t x => (opd P t x).map (.un op)
  | .alloc t => match zeroB P (ldZ ows o) t with
    | some z => if (aggT P t = true ∨ z.length = 1) ∧ z.length ≠ 0 then (if ldN ows o = true then some (.alcN z) else some (.alloc (aggT P t) z)) else none
    | none => none
  | .box t x => (opd P t x).map (.box (ldF ows o))
  | .build t ps => match P.underlying t, zeroB P (ldZ ows o) t with
    | some (.struct fs), some z => (mapO (fun (i, x) => match fs[i]? with
        | some f => if knownT P f.type = true then (opd P f.type x).map fun x => (f.offset, szT P f.type, x) else none
        | none => none) ps.toList).bind fun qs => if fs.all (fun f => knownT P f.type) = true then some (.build (ldF ows o) z qs) else none
    | some (.array _ e), some z => (mapO (fun (i, x) => (opd P e x).map fun x => (i * szT P e, szT P e, x)) ps.toList).bind fun qs => if knownT P e = true then some (.build (ldF ows o) z qs) else none
    | _, _ => none
  | .buildSlice t n ps => match elemT P t with
    | some e => match zeroP P e with
      | some z => if n * szT P e ≤ 16777216 ∧ z.length = szT P e ∧ szT P e ≠ 0 ∧ knownT P e = true ∧ (aggT P e = true ∨ z.length = 1) then (mapO (fun (i, x) => (opd P e x).map fun x => (i, x)) ps.toList).map (fun qs => if ldB ows o = true then .buildV (szT P e) n (aggT P e) z qs else .buildS (ldF ows o) (szT P e) n (aggT P e) z qs) else none
      | none => none
    | none => none
  | .load t x => if knownT P t = true then (opd P 0 x).map (fun x => if aggT P t = true ∧ ldRw ows o = true then .ldR (szT P t) x else .ld (aggT P t) (szT P t) x) else none
  | .store t x v => match opd P 0 x, opd P t v with
    | some x, some v => if knownT P t = true ∧ szT P t ≠ 0 then (match x with
      | .t d => if ows.contains (100000 + d) = true ∧ szT P t = 1 ∧ aggT P t = false then some (.stt false 0 x v) else some (.stt (aggT P t) (szT P t) x v)
      | _ => some (.stt (aggT P t) (szT P t) x v)) else none
    | _, _ => none
  | .nilCheck x => (opd P 0 x).map .chk
  | .convert s d x => match P.underlying s, P.underlying d with
    | some (.int _), some (.int k) => (opd P 0 x).map (.conv k)
    | some .string, some .string => (opd P 0 x).map .cvS
    | _, _ => none
  | .makeInterface t x => match P.underlying t with
    | some (.interface _) => none
    | some _ => (opd P t x).map (.mki t)
    | none => none
  | .typeAssert x xt t ok => match P.underlying t, zeroP P t with
    | some (.interface _), _ => none
    | some _, some _ => (opd P xt x).map (.asrt t ok)
    | _, _ => none
  | .makeFunc (.func f) first caps => if first.size = 0 then (mapO (opd P 0) caps.toList).map (.mkf f) else none
  | .makeSlice t n c => match elemT P t with
    | some e => match zeroP P e, P.info? e, opd P 0 n, opd P 0 c with
      | some z, some i, some n, some c => if z.length = szT P e ∧ szT P e ≠ 0 ∧ (aggT P e = true ∨ z.length = 1) ∧ knownT P e = true then some (.mkS (szT P e) i.bytes (aggT P e) z n c) else none
      | _, _, _, _ => none
    | none => none
  | .slice t x lo hi mx => match P.underlying t with
    | some .string => match opd P 0 x, optO P lo, optO P hi, mx with
      | some x, some lo, some hi, none => some (.sls x lo hi)
      | _, _, _, _ => none
    | some (.slice e) => if knownT P e = true then (match mx with
      | none => match opd P 0 x, optO P lo, optO P hi, o.dst with
        | some x, some lo, some hi, some d => if ows.contains (d + 200000) = true then some (.slcP (szT P e) x lo hi) else some (.slc (ows.contains d) (szT P e) x lo hi)
        | _, _, _, _ => none
      | some (.const (.int _ 0)) => match lo, hi with
        | none, some (.const (.int _ 0)) => (opd P 0 x).map (.sl0 (szT P e))
        | _, _ => none
      | some _ => none) else none
    | _ => none
  | .fieldAddr t x i => match P.underlying t with
    | some (.struct fs) => match fs[i]? with
      | some f => if knownT P f.type = true ∧ szT P f.type ≠ 0 then (opd P 0 x).map (.fa f.offset) else none
      | none => none
    | _ => none
  | .field t x i => match P.underlying t with
    | some (.struct fs) => match fs[i]? with
      | some f => if knownT P f.type = true then (opd P t x).map (.fld (aggT P f.type) f.offset (szT P f.type)) else none
      | none => none
    | _ => none
  | .indexAddr t x i => match P.underlying t, opd P 0 x, opd P 0 i with
    | some (.slice e), some x, some i => if knownT P e = true ∧ szT P e ≠ 0 then some (.ia (szT P e) x i) else none
    | some (.array n e), some x, some i => if knownT P e = true then some (.iaA n (szT P e) x i) else none
    | _, _, _ => none
  | .index t x i => match P.underlying t, opd P 0 x, opd P 0 i with
    | some .string, some x, some i => some (.six x i)
    | some (.array n e), some x, some i => if knownT P e = true then some (.aix (aggT P e) n (szT P e) x i) else none
    | _, _, _ => none
  | .extract x i => (opd P 0 x).map fun x => .ext x i
  | .makeMap t none => match P.underlying t with
    | some (.map _ _) => some .mkM
    | _ => none
  | .lookup t x k ok => match P.underlying t with
    | some (.map kt e) => match keyKs P 40 kt, zeroV P e, opd P 0 x, opd P 0 k with
      | some ks, some z, some x, some k => some (.mlk (aggT P kt) ks ok z x k)
      | _, _, _, _ => none
    | _ => none
  | .mapUpdate t x k v => match P.underlying t with
    | some (.map kt e) => match keyKs P 40 kt, opd P 0 x, opd P 0 k, opd P e v with
      | some ks, some x, some k, some v => some (.mup (aggT P kt) ks x k v)
      | _, _, _, _ => none
    | _ => none
  | .range t x => match P.underlying t with
    | some (.map _ _) => (opd P 0 x).map .rng
    | _ => none
  | .entry x => (opd P 0 x).map .ent
  | .call { callee := .builtin .len, args := as, argTypes := ts } => match as.toList, ts.toList with
    | [x], [t] => match P.underlying t with
      | some .string => (opd P t x).map (.len true)
      | some (.slice _) => (opd P t x).map (.len false)
      | some (.map _ _) => (opd P t x).map .mln
      | _ => none
    | _, _ => none
  | .call { callee := .builtin .clear, args := as, argTypes := ts } => match as.toList, ts.toList with
    | [x], [t] => match elemT P t with
      | some e => match zeroP P e, opd P t x with
        | some z, some x => if z.length = szT P e ∧ szT P e ≠ 0 ∧ (aggT P e = true ∨ z.length = 1) then some (.clr (szT P e) (aggT P e) z x) else none
        | _, _ => none
      | none => none
    | _, _ => none
  | .call { callee := .builtin .max, args := as, .. } => match as.toList with
    | [x, y] => match opd P 0 x, opd P 0 y with
      | some x, some y => some (.mm true x y)
      | _, _ => none
    | [x, y, z] => match opd P 0 x, opd P 0 y, opd P 0 z with
      | some x, some y, some z => some (.mm3 true x y z)
      | _, _, _ => none
    | _ => none
  | .call { callee := .builtin .min, args := as, .. } => match as.toList with
    | [x, y] => match opd P 0 x, opd P 0 y with
      | some x, some y => some (.mm false x y)
      | _, _ => none
    | [x, y, z] => match opd P 0 x, opd P 0 y, opd P 0 z with
      | some x, some y, some z => some (.mm3 false x y z)
      | _, _, _ => none
    | _ => none
  | .call { callee := .builtin .append, args := as, argTypes := ts } => match as.toList, ts.toList with
    | [x0, y], [t, t'] => match elemT P t, elemT P t' with
      | some e, some _ => match P.info? e, opd P t x0, opd P t' y with
        | some i, some x, some y => if (i.zero.map fun z => z.cells.size) = some i.size ∧ i.bytes ≠ 0 then (if isNilC x0 = true ∧ i.size ≠ 0 then (if ldV ows o = true then some (.clnV i.size i.bytes y) else some (.cln i.size i.bytes y)) else match apX ows o x with | some (c, d) => some (.appX (ldY ows o) c d i.size i.bytes x y) | none => some (.app i.size i.bytes x y)) else none
        | _, _, _ => none
      | _, _ => none
    | _, _ => none
  | _ => none

end
end Go.AM
/- What the operands and the rows are in the world. -/
set_option linter.all false
namespace Go.AM
open Go
variable [dr : Inhabited Prop]

theorem scal_cell {v : Value} (h : scal v = true) : v.cells = #[v] ∧ v.oneCell' = true := by
  cases v <;> first | (simp [scal] at h; done) | exact ⟨rfl, rfl⟩

section
variable {W : World} {ok : Nat → Prop}

theorem RepC.slInv {sz : Nat} {l : List PV} {vs : List Value} (r : RepC W ok (.sl sz l) vs) :
    (l = [] ∧ ∃ ao, vs = [.slice ao 0 0]) ∨ ∃ b off cap c, vs = [.slice (some ⟨b, off, none⟩) l.length cap] ∧ ok b ∧ World.row W b c ∧ off + cap * sz ≤ c.length ∧ l.length ≤ cap ∧
      RepL W ok sz l ((c.drop off).take (l.length * sz)) := by
  cases r with
  | nil => exact .inl ⟨rfl, _, rfl⟩
  | sl h1 h2 h3 h4 h5 => exact .inr ⟨_, _, _, _, rfl, h1, h2, h3, h4, h5⟩

theorem RepV.slInv {sz : Nat} {l : List PV} {v : Value} (r : RepV W ok (.sl sz l) v) : RepC W ok (.sl sz l) [v] := by
  unfold RepV at r; simpa using r

theorem RepV.sl {sz : Nat} {l : List PV} {v : Value} (r : RepC W ok (.sl sz l) [v]) : RepV W ok (.sl sz l) v := by
  unfold RepV; simpa using r

theorem RepV.wInv {u v : Value} (r : RepV W ok (.w u) v) : v = u ∧ scal u = true := by
  unfold RepV at r
  simp only [PV.isSt, Bool.false_eq_true, if_false] at r
  cases r with | w h => exact ⟨rfl, h⟩

theorem RepV.w {v : Value} (h : scal v = true) : RepV W ok (.w v) v := by
  unfold RepV; simpa using RepC.w h

theorem RepV.stInv {cs : List PV} {v : Value} (r : RepV W ok (.st cs) v) : ∃ vs : List Value, v = .agg vs.toArray ∧ RepL W ok 1 cs vs ∧ ∀ p ∈ cs, p.isSt = false := by
  unfold RepV at r
  simp only [PV.isSt, if_true] at r
  obtain ⟨vs, e, r⟩ := r
  cases r with | st h r => exact ⟨vs, e, r, h⟩

theorem RepV.st {cs : List PV} {vs : List Value} (r : RepL W ok 1 cs vs) (h : ∀ p ∈ cs, p.isSt = false) : RepV W ok (.st cs) (.agg vs.toArray) := by
  unfold RepV; simp only [PV.isSt, if_true]; exact ⟨vs, rfl, .st h r⟩

theorem RepV.ifc {t : Nat} {p : PV} {v : Value} (r : RepV W ok p v) : RepV W ok (.ifc t p) (.iface t v) := by
  unfold RepV at r ⊢
  simp only [PV.isSt, Bool.false_eq_true, if_false]
  by_cases h : p.isSt = true
  · rw [if_pos h] at r
    obtain ⟨vs, rfl, r⟩ := r
    exact .ifS h r
  · rw [if_neg h] at r
    exact .if1 (by simpa using h) r
theorem RepV.ifcInv {t : Nat} {p : PV} {v : Value} (r : RepV W ok (.ifc t p) v) : ∃ x, v = .iface t x ∧ RepV W ok p x := by
  unfold RepV at r
  simp only [PV.isSt, Bool.false_eq_true, if_false] at r
  generalize hv : [v] = vv at r
  cases r with
  | if1 h1 h2 =>
    simp only [List.cons.injEq, and_true] at hv
    exact ⟨_, hv, by unfold RepV; rw [if_neg (by rw [h1]; simp)]; exact h2⟩
  | ifS h1 h2 =>
    simp only [List.cons.injEq, and_true] at hv
    exact ⟨_, hv, by unfold RepV; rw [if_pos h1]; exact ⟨_, rfl, h2⟩⟩

/-- The cells of a value. -/
theorem RepC.cells {p : PV} {vs : List Value} (r : RepC W ok p vs) : RepL W ok 1 p.cells vs ∧ ∀ q ∈ p.cells, q.isSt = false := by
  cases r with
  | w h => exact ⟨by simpa using RepL.one (RepC.w (W := W) (ok := ok) h), by simp⟩
  | nil => rename_i sz ao; exact ⟨by simpa using RepL.one (RepC.nil (W := W) (ok := ok) (sz := sz) (ao := ao)), by simp⟩
  | sl h1 h2 h3 h4 h5 => exact ⟨by simpa using RepL.one (RepC.sl h1 h2 h3 h4 h5), by simp⟩
  | pt h1 h2 h3 h4 => exact ⟨by simpa using RepL.one (RepC.pt h1 h2 h3 h4), by simp⟩
  | cl h1 h2 => exact ⟨by simpa using RepL.one (RepC.cl h1 h2), by simp⟩
  | nls => exact ⟨by simpa using RepL.one (RepC.nls (W := W) (ok := ok)), by simp⟩
  | if1 h1 h2 => exact ⟨by simpa using RepL.one (RepC.if1 h1 h2), by simp⟩
  | ifS h1 h2 => exact ⟨by simpa using RepL.one (RepC.ifS h1 h2), by simp⟩
  | st h r => exact ⟨r, h⟩

theorem RepL.oneCell {cs : List PV} {vs : List Value} (r : RepL W ok 1 cs vs) (h : ∀ p ∈ cs, p.isSt = false) : ∀ v ∈ vs, v.oneCell' = true := by
  induction cs generalizing vs with
  | nil => cases r; simp
  | cons p l ih =>
    cases r with
    | cons h1 r0 r =>
      intro v hv
      rcases List.mem_append.1 hv with hv | hv
      · have hp := h p (by simp)
        cases r0 with
        | w hw => simp at hv; subst hv; exact (scal_cell hw).2
        | nil => simp at hv; subst hv; rfl
        | sl => simp at hv; subst hv; rfl
        | pt => simp at hv; subst hv; rfl
        | cl => simp at hv; subst hv; rfl
        | nls => simp at hv; subst hv; rfl
        | if1 => simp at hv; subst hv; rfl
        | ifS => simp at hv; subst hv; rfl
        | st => simp at hp
      · exact ih r (fun q hq => h q (by simp [hq])) v hv

theorem RepV.oneCell {p : PV} {v : Value} (r : RepV W ok p v) (h : p.isSt = false) : v.oneCell' = true ∧ v.cells = #[v] ∧ RepC W ok p [v] := by
  unfold RepV at r
  rw [h] at r
  simp only [Bool.false_eq_true, if_false] at r
  refine ⟨?_, ?_, r⟩
  · cases r with
    | w hw => exact (scal_cell hw).2
    | nil => rfl
    | sl => rfl
    | pt => rfl
    | cl => rfl
    | nls => rfl
    | if1 => rfl
    | ifS => rfl
    | st => simp at h
  · cases r with
    | w hw => exact (scal_cell hw).1
    | nil => rfl
    | sl => rfl
    | pt => rfl
    | cl => rfl
    | nls => rfl
    | if1 => rfl
    | ifS => rfl
    | st => simp at h

/-- The cells of an operand. -/
theorem RepV.toC {p : PV} {v : Value} (r : RepV W ok p v) : RepC W ok p v.cells.toList := by
  by_cases h : p.isSt = true
  · cases p with
    | st cs => obtain ⟨vs, rfl, r, hs⟩ := r.stInv; exact .st hs (by simpa [Value.cells] using r)
    | _ => simp at h
  · obtain ⟨h1, h2, h3⟩ := r.oneCell (by simpa using h)
    rw [h2]; exact h3

theorem RepL.get1 {cs : List PV} {vs : List Value} (r : RepL W ok 1 cs vs) {i : Nat} {p : PV} (h : cs[i]? = some p) : ∃ v, vs[i]? = some v ∧ RepC W ok p [v] := by
  obtain ⟨r1, r2⟩ := r.get h
  simp only [Nat.mul_one] at r1 r2
  have hi : i < vs.length := by omega
  refine ⟨vs[i], List.getElem?_eq_getElem hi, ?_⟩
  have e : (vs.drop i).take 1 = [vs[i]] := by
    rw [List.drop_eq_getElem_cons hi, List.take_succ_cons, List.take_zero]
  rw [e] at r1; exact r1

theorem RepV.ofC {p : PV} {v : Value} (r : RepC W ok p [v]) (h : p.isSt = false) : RepV W ok p v := by
  unfold RepV; rw [h]; simpa using r

/-- Reading a part of a row of cells. -/
theorem cellRd_ok {cs : List PV} {vs : List Value} {agg : Bool} {off sz : Nat} {p : PV} (r : RepL W ok 1 cs vs) (hs : ∀ p ∈ cs, p.isSt = false) (h : cellRd cs agg off sz = some p) :
    if agg = true then RepV W ok p (.agg ((vs.drop off).take sz).toArray) ∧ off + sz ≤ vs.length else ∃ v, vs[off]? = some v ∧ RepV W ok p v := by
  unfold cellRd at h
  by_cases ha : agg = true
  · rw [if_pos ha] at h ⊢
    by_cases hl : off + sz ≤ cs.length
    · rw [if_pos hl] at h
      simp only [Option.some.injEq] at h
      subst h
      have hlen := r.length
      refine ⟨RepV.st ?_ (fun q hq => hs q (List.mem_of_mem_drop (List.mem_of_mem_take hq))), by omega⟩
      have := (r.drop off).take sz
      simpa using this
    · rw [if_neg hl] at h; cases h
  · rw [if_neg ha] at h ⊢
    obtain ⟨v, h1, h2⟩ := r.get1 h
    exact ⟨v, h1, RepV.ofC h2 (hs p (List.mem_of_getElem? h))⟩

end

section
variable {P : Program} {C : Cx} {n : Nat} {F : Nat → Prop} {s : St} {a : Act} {W : World} {hdr : Nat → Value} {ow : Nat → Option Nat}

theorem constC_ok {ok : Nat → Prop} {v : Value} {p : PV} (h : constC v = some p) : RepC W ok p [v] ∧ p.isSt = false := by
  unfold constC at h
  split at h
  · cases h; exact ⟨.nil, rfl⟩
  · split at h
    · rename_i hs; cases h; exact ⟨.w hs, rfl⟩
    · cases h

theorem mapO_consts {ok : Nat → Prop} {vs : List Value} {ps : List PV} (h : mapO constC vs = some ps) : RepL W ok 1 ps vs ∧ ∀ p ∈ ps, p.isSt = false := by
  induction vs generalizing ps with
  | nil => simp [mapO] at h; subst h; exact ⟨.nil, by simp⟩
  | cons v vs ih =>
    simp only [mapO] at h
    split at h
    · rename_i y ys h1 h2
      cases h
      obtain ⟨r1, r2⟩ := constC_ok (W := W) (ok := ok) h1
      obtain ⟨r3, r4⟩ := ih h2
      exact ⟨RepL.cons rfl r1 r3, by intro p hp; rcases List.mem_cons.1 hp with rfl | hp; exact r2; exact r4 p hp⟩
    · cases h

theorem constZ_ok {ok : Nat → Prop} {sz : Nat} {v : Value} {p : PV} (h : constZ sz v = some p) : RepC W ok p [v] ∧ p.isSt = false := by
  unfold constZ at h
  split at h
  · cases h; exact ⟨.nil, rfl⟩
  · split at h
    · rename_i hs; cases h; exact ⟨.w hs, rfl⟩
    · cases h

theorem mapZ_ok {ok : Nat → Prop} : ∀ {s : List Nat} {vs : List Value} {ps : List PV}, mapZ s vs = some ps → RepL W ok 1 ps vs ∧ ∀ p ∈ ps, p.isSt = false
  | _, [], ps, h => by simp only [mapZ, Option.some.injEq] at h; subst h; exact ⟨.nil, by simp⟩
  | s, v :: vs, ps, h => by
    simp only [mapZ] at h
    split at h
    · rename_i y ys h1 h2
      cases h
      obtain ⟨r1, r2⟩ := constZ_ok (W := W) (ok := ok) h1
      obtain ⟨r3, r4⟩ := mapZ_ok (ok := ok) h2
      exact ⟨RepL.cons rfl r1 r3, by intro p hp; rcases List.mem_cons.1 hp with rfl | hp; exact r2; exact r4 p hp⟩
    · cases h

theorem mapN_ok {ok : Nat → Prop} : ∀ {vs : List Value} {ps : List PV}, mapO constN vs = some ps → RepL W ok 1 ps vs ∧ ∀ p ∈ ps, p.isSt = false
  | [], ps, h => by simp only [mapO, Option.some.injEq] at h; subst h; exact ⟨.nil, by simp⟩
  | v :: vs, ps, h => by
    simp only [mapO] at h
    split at h
    · rename_i y ys h1 h2
      cases h
      have r1 : RepC W ok y [v] ∧ y.isSt = false := by
        unfold constN at h1
        split at h1
        · cases h1; exact ⟨.nls, rfl⟩
        · split at h1
          · rename_i hs; cases h1; exact ⟨.w hs, rfl⟩
          · cases h1
      obtain ⟨r3, r4⟩ := mapN_ok (ok := ok) h2
      exact ⟨RepL.cons rfl r1.1 r3, by intro p hp; rcases List.mem_cons.1 hp with rfl | hp; exact r1.2; exact r4 p hp⟩
    · cases h

theorem constP_ok {ok : Nat → Prop} {t : TypeId} {v : Value} {p : PV} (h : constP P t v = some p) : RepV W ok p v := by
  unfold constP at h
  split at h
  · split at h
    · cases h; unfold RepV; simp only [PV.isSt, Bool.false_eq_true, if_false]; exact .nls
    · cases h; exact RepV.sl .nil
  · rename_i cs
    cases e : mapO constC cs.toList with
    | none => rw [e] at h; cases h
    | some ps =>
      rw [e] at h; cases h
      obtain ⟨r1, r2⟩ := mapO_consts (W := W) (ok := ok) e
      have := RepV.st r1 r2
      simpa using this
  · split at h
    · rename_i hs; cases h; exact RepV.w hs
    · cases h

theorem opd_ok (r : RelAt C n F s a W hdr ow) {t : TypeId} {x : Operand} {y : Opd} {av : AV} (h : opd P t x = some y) (he : ev s.env y = some av) :
    RepA W (OK C W s.heap ow) hdr s.heap av (a.eval x) ∧ ∀ id, av.men id → F id := by
  unfold opd at h
  split at h
  · cases h; simp only [ev] at he; exact ⟨r.env _ _ he, r.idsE _ _ he⟩
  · cases h; simp only [ev] at he; cases he; exact ⟨by simp only [RepA]; exact ⟨[], rfl, by simp [RepAs]⟩, by simp [AV.men, AV.mens]⟩
  · rename_i f x y
    split at h
    · rename_i hh; cases h; simp only [ev] at he; cases he
      refine ⟨by simp only [RepA]; refine ⟨[], ?_, by simp [RepAs]⟩; simp only [Act.eval]; congr 1; exact Array.eq_empty_of_size_eq_zero hh.1; exact Array.eq_empty_of_size_eq_zero hh.2, by simp [AV.men, AV.mens]⟩
    · cases h
  · rename_i v _
    cases e : constP P t v with
    | none => rw [e] at h; cases h
    | some p =>
      rw [e] at h; cases h; simp only [ev] at he; cases he
      exact ⟨by simp only [RepA]; exact constP_ok e, by simp [AV.men]⟩
  · cases h

theorem rdRow_h {H : Heap} {id sz : Nat} {l : List PV} (h : rdRow H (.h id) = some (sz, l)) : ∃ e, find H id = some e ∧ e.sz ≠ 0 ∧ e.sz = sz ∧ e.l = l := by
  simp only [rdRow] at h
  split at h
  · rename_i e he
    split at h
    · cases h
    · rename_i hz; cases h; exact ⟨e, he, hz, rfl, rfl⟩
  · cases h

/-- What a row is. -/
theorem rdRow_ok (r : RelAt C n F s a W hdr ow) {x : AV} {v : Value} {sz : Nat} {l : List PV} (hx : RepA W (OK C W s.heap ow) hdr s.heap x v) (h : rdRow s.heap x = some (sz, l)) :
    RepC W (fun b => b < W.heap.size) (.sl sz l) [v] := by
  cases x with
  | v p =>
    cases p with
    | sl sz' l' =>
      simp only [rdRow, Option.some.injEq, Prod.mk.injEq] at h
      obtain ⟨rfl, rfl⟩ := h
      simp only [RepA] at hx
      exact hx.slInv.mono fun b hb => ⟨hb.1.2, rfl⟩
    | _ => simp [rdRow] at h
  | h id =>
    obtain ⟨e, he, hz, rfl, rfl⟩ := rdRow_h h
    simp only [RepA] at hx
    rw [hx e he]
    exact ((r.mem.ent id e he).plain hz).shared (fun b hb => hb.1.2) (fun b hb => (r.mem.lt id e b he hb).1)
  | _ => simp [rdRow] at h

/-- A value that is kept. -/
theorem tov_ok (r : RelAt C n F s a W hdr ow) {x : AV} {v : Value} {p : PV} {H' : Heap} (hx : RepA W (OK C W s.heap ow) hdr s.heap x v) {q : Bool} (h : tov q s.heap x = some (p, H')) :
    ∃ ow', RelAt C n F { s with heap := H' } a W hdr ow' ∧ RepV W (OK C W H' ow') p v ∧ (∀ b, OK C W s.heap ow b → OK C W H' ow' b) ∧
      (∀ k e, find H' k = some e → ∃ e0, find s.heap k = some e0 ∧ e0.sz = e.sz ∧ e0.l = e.l) := by
  cases x with
  | v q' =>
    simp only [tov, Option.some.injEq, Prod.mk.injEq] at h
    obtain ⟨rfl, rfl⟩ := h
    simp only [RepA] at hx
    exact ⟨ow, r, hx, fun b hb => hb, fun k e he => ⟨e, he, rfl, rfl⟩⟩
  | h id =>
    simp only [tov] at h
    cases he : find s.heap id with
    | none => rw [he] at h; cases h
    | some e =>
      rw [he] at h
      simp only at h
      simp only [RepA] at hx
      rw [hx e he]
      by_cases hz : e.sz = 0
      · rw [if_pos hz] at h; cases h
      rw [if_neg hz] at h
      by_cases hf : e.fro = true
      · rw [if_pos hf] at h
        simp only [Option.some.injEq, Prod.mk.injEq] at h
        obtain ⟨rfl, rfl⟩ := h
        refine ⟨ow, r, ?_, fun b hb => hb, fun k e he => ⟨e, he, rfl, rfl⟩⟩
        rcases (r.mem.ent id e he).plain hz with ⟨_, h2, _⟩ | ⟨h1, _, ao, h3⟩ | ⟨h1, _⟩
        · exact RepV.sl h2
        · rw [h1, h3]; exact RepV.sl .nil
        · rw [hf] at h1; cases h1
      · rw [if_neg hf] at h
        by_cases hq : q = true
        · rw [if_pos hq] at h; cases h
        rw [if_neg hq] at h
        simp only [Option.some.injEq, Prod.mk.injEq] at h
        obtain ⟨rfl, rfl⟩ := h
        have r2 := r.freeze he hz
        have hfd : find (setIn s.heap id { e with fro := true }) id = some { e with fro := true } := by rw [find_setIn, if_pos rfl, he]; rfl
        refine ⟨_, r2, ?_, ?_, ?_⟩
        · rcases (r2.mem.ent id _ hfd).plain hz with ⟨_, h2, _⟩ | ⟨h1, _, ao, h3⟩ | ⟨h1, _⟩
          · exact RepV.sl h2
          · simp only at h1; rw [h1, h3]; exact RepV.sl .nil
          · cases h1
        · rintro k ⟨h1, h2⟩
          refine ⟨h1, ?_⟩
          rintro ⟨j, y, hj, ho⟩
          simp only [upd] at ho
          by_cases hji : j = id
          · rw [if_pos hji] at ho; cases ho
          · rw [if_neg hji] at ho
            rw [find_setIn, if_neg hji] at hj
            exact h2 ⟨j, y, hj, ho⟩
        · intro k y hk
          rw [find_setIn] at hk
          by_cases hki : k = id
          · subst hki; rw [if_pos rfl, he] at hk; simp at hk; subst hk; exact ⟨e, he, rfl, rfl⟩
          · rw [if_neg hki] at hk; exact ⟨y, hk, rfl, rfl⟩
  | fn f caps =>
    cases caps with
    | nil =>
      simp only [tov, Option.some.injEq, Prod.mk.injEq] at h
      obtain ⟨rfl, rfl⟩ := h
      simp only [RepA] at hx
      obtain ⟨vs, rfl, hvs⟩ := hx
      cases vs with
      | nil => exact ⟨ow, r, RepV.w (by simp [scal]), fun b hb => hb, fun k e he => ⟨e, he, rfl, rfl⟩⟩
      | cons v vs => simp [RepAs] at hvs
    | cons c cs => simp [tov] at h
  | _ => simp [tov] at h

end
end Go.AM
/- Each operation of the program does what its reading comes to: those that leave memory alone. -/
set_option linter.all false
namespace Go.AM
open Go
variable [dr : Inhabited Prop]

section
variable {P : Program} {C : Cx} {n : Nat} {F : Nat → Prop} {s : St} {a : Act} {W : World} {hdr : Nat → Value} {ow : Nat → Option Nat} {id : Nat} {o : Oper}

/-- The operation goes through: its value is borne as x says, the state's rows are H'. -/
def Snd (P : Program) (C : Cx) (n : Nat) (F : Nat → Prop) (s : St) (a : Act) (W : World) (id : Nat) (o : Oper) (x : AV) (H' : Heap) : Prop :=
  ∃ v W' hdr' ow', ((execOp a.eval o).run P W = .ok (.value v) W' ∨ ((execOp a.eval o).run P W = .ok .skip W' ∧ v = undef)) ∧
    RelAt C n (fun i => F i ∨ i = id) { s with heap := H' } a W' hdr' ow' ∧ RepA W' (OK C W' H' ow') hdr' H' x v ∧ ∀ i, x.men i → F i ∨ i = id

theorem Snd.pure (r : RelAt C n F s a W hdr ow) {x : AV} {v : Value} (h : (execOp a.eval o).run P W = .ok (.value v) W) (hx : RepA W (OK C W s.heap ow) hdr s.heap x v) (hm : ∀ i, x.men i → F i) :
    Snd P C n F s a W id o x s.heap :=
  ⟨v, W, hdr, ow, .inl h, r.monoF fun i h => .inl h, hx, fun i h => .inl (hm i h)⟩

/-- A scalar comes out. -/
theorem Snd.scal (r : RelAt C n F s a W hdr ow) {v : Value} (h : (execOp a.eval o).run P W = .ok (.value v) W) (hv : scal v = true) : Snd P C n F s a W id o (.v (.w v)) s.heap :=
  Snd.pure r h (by simp only [RepA]; exact RepV.w hv) (by simp [AV.men])

theorem snd_mv (r : RelAt C n F s a W hdr ow) {x : Operand} {y : Opd} {t : TypeId} {av : AV} (ho : o.op = .move x ∨ o.op = .assign x) (hx : opd P t x = some y) (he : ev s.env y = some av) :
    Snd P C n F s a W id o av s.heap := by
  obtain ⟨h1, h2⟩ := opd_ok r hx he
  refine Snd.pure r ?_ h1 h2
  rcases ho with ho | ho <;> simp [execOp, ho]

theorem snd_nilS (r : RelAt C n F s a W hdr ow) (hid : ¬ F id) {x : Value} {sz : Nat} (ho : o.op = .move (.const x) ∨ o.op = .assign (.const x)) (hx : isNilSlice x = true) :
    Snd P C n F s a W id o (.h id) ((id, ⟨false, sz, []⟩) :: s.heap) := by
  have hx' : x = .slice none 0 0 := by
    unfold isNilSlice at hx; split at hx <;> simp_all
  refine ⟨.slice none 0 0, W, _, _, .inl ?_, r.allocNil hid sz none, ?_, ?_⟩
  · rcases ho with ho | ho <;> simp [execOp, ho, Act.eval, hx']
  · simp only [RepA]; intro e he; simp [upd]
  · intro i hi; exact .inr (by simpa [AV.men] using hi.symm)

theorem snd_pick (r : RelAt C n F s a W hdr ow) {c x y : Operand} {c' x' y' : Opd} {t1 t2 t3 : TypeId} {b : Bool} {av : AV} (ho : o.op = .pick c x y) (hc : opd P t1 c = some c') (hx : opd P t2 x = some x') (hy : opd P t3 y = some y')
    (hb : ev s.env c' = some (.v (.w (.bool b)))) (he : ev s.env (if b = true then x' else y') = some av) : Snd P C n F s a W id o av s.heap := by
  have hcv : a.eval c = .bool b := by
    have := (opd_ok r hc hb).1
    simp only [RepA] at this
    exact this.wInv.1
  cases b with
  | true =>
    obtain ⟨h1, h2⟩ := opd_ok r hx (by simpa using he)
    exact Snd.pure r (by simp [execOp, ho, hcv, asBool]) h1 h2
  | false =>
    obtain ⟨h1, h2⟩ := opd_ok r hy (by simpa using he)
    exact Snd.pure r (by simp [execOp, ho, hcv, asBool]) h1 h2

theorem data_inj {x y : ByteArray} (h : x.data.toList = y.data.toList) : x = y := by
  obtain ⟨⟨x⟩⟩ := x
  obtain ⟨⟨y⟩⟩ := y
  simp only at h
  subst h; rfl

theorem eq_toList (x y : ByteArray) : (x.toList == y.toList) = decide (x = y) := by
  rw [ByteArray.toList_eq, ByteArray.toList_eq, Bool.eq_iff_iff]
  simp only [beq_iff_eq, decide_eq_true_eq]
  exact ⟨data_inj, fun h => by rw [h]⟩

theorem run_value {s : Sem Value} {z : Value} {W W' : World} (h : s.run P W = .ok z W') : ((do Pure.pure (Next.value (← s))) : Sem Next).run P W = .ok (.value z) W' := by simp [h]

theorem shV_scal {op : BinOp} {k : IntKind} {x y : Int} {z : Value} (h : shV op k x y = some z) : scal z = true := by
  unfold shV at h
  split at h
  · cases h
  · cases op <;> first | (simp at h; done) | (simp at h; subst h; rfl)

theorem run_shV {op : BinOp} {k k' : IntKind} {x y : Int} {z : Value} (t : TypeId) (X Y : Operand) (h : shV op k x y = some z) :
    ((do eqGuard op t X Y (.int k x) (.int k' y); binOp op t (.int k x) (.int k' y)) : Sem Value).run P W = .ok z W := by
  unfold shV at h
  split at h
  · cases h
  · rename_i hy
    cases op <;> first | (simp at h; done) | (simp at h; subst h; simp [eqGuard, binOp, Op.shift, hy])

theorem intBin_scal {op : BinOp} {k : IntKind} {x y : Int} {z : Value} (h : intBin op k x y = some z) : scal z = true := by
  unfold intBin at h
  cases op <;> first | exact shV_scal h | (simp at h; done) | (simp at h; subst h; rfl) | (simp at h; obtain ⟨_, h⟩ := h; subst h; rfl)

theorem strBin_scal {op : BinOp} {x y : ByteArray} {z : Value} (h : strBin op x y = some z) : scal z = true := by
  unfold strBin at h
  cases op <;> first | (simp at h; done) | (simp at h; subst h; rfl) | (simp at h; obtain ⟨_, h⟩ := h; subst h; rfl)

theorem run_intBin {op : BinOp} {k : IntKind} {x y : Int} {z : Value} (t : TypeId) (X Y : Operand) (h : intBin op k x y = some z) :
    ((do eqGuard op t X Y (.int k x) (.int k y); binOp op t (.int k x) (.int k y)) : Sem Value).run P W = .ok z W := by
  unfold intBin at h
  cases op <;> first
    | exact run_shV t X Y h
    | (simp at h; done)
    | (simp at h; subst h; simp [eqGuard, binOp, Op.intArith, Op.intCmp]; done)
    | (simp at h; obtain ⟨h0, h⟩ := h; subst h; simp [eqGuard, binOp, Op.intDiv, h0]; done)
    | (simp at h; subst h; simp [eqGuard, binOp, Op.intBits, orI]; done)
    | (simp at h; subst h; simp [eqGuard, binOp, Op.intArith, Op.intCmp, bne]; rw [Bool.eq_iff_iff]; simp; done)

theorem run_strBin {op : BinOp} {x y : ByteArray} {z : Value} (t : TypeId) (X Y : Operand) (h : strBin op x y = some z) :
    ((do eqGuard op t X Y (.string x) (.string y); binOp op t (.string x) (.string y)) : Sem Value).run P W = .ok z W := by
  unfold strBin at h
  have hm : IntKind.max .i64 = 9223372036854775807 := by decide
  cases op <;> first
    | (simp at h; done)
    | (simp at h; subst h; simp [eqGuard, binOp, Op.stringOp, eq_toList, slt]; done)
    | (simp at h; obtain ⟨h0, h⟩ := h; subst h; simp only [eqGuard, binOp, Op.stringOp, hm]
       simp
       omega)

theorem snd_bin (r : RelAt C n F s a W hdr ow) {op : BinOp} {x y : Operand} {x' y' : Opd} {t t' : TypeId} {u v z : AV} (ho : o.op = .binOp op t x y t') (hx : opd P t x = some x') (hy : opd P t y = some y')
    (hu : ev s.env x' = some u) (hv : ev s.env y' = some v) (hz : binA op u v = some z) : Snd P C n F s a W id o z s.heap := by
  have hux := (opd_ok r hx hu).1
  have hvy := (opd_ok r hy hv).1
  unfold binA at hz
  split at hz
  · rename_i p q
    simp only [RepA] at hux hvy
    obtain ⟨hu1, hu2⟩ := hux.wInv
    obtain ⟨hv1, hv2⟩ := hvy.wInv
    simp only [Option.map_eq_some_iff] at hz
    obtain ⟨w, hw, rfl⟩ := hz
    unfold binV at hw
    split at hw
    · rename_i k i k' j
      split at hw
      · rename_i hk; subst hk
        refine Snd.scal r ?_ (intBin_scal hw)
        simp only [execOp, ho, hu1, hv1]
        exact run_value (run_intBin t x y hw)
      · refine Snd.scal r ?_ (shV_scal hw)
        simp only [execOp, ho, hu1, hv1]
        exact run_value (run_shV t x y hw)
    · refine Snd.scal r ?_ (strBin_scal hw)
      simp only [execOp, ho, hu1, hv1]
      exact run_value (run_strBin t x y hw)
    · cases hw
  · cases hz

theorem snd_un (r : RelAt C n F s a W hdr ow) {op : UnOp} {x : Operand} {x' : Opd} {t : TypeId} {u z : AV} (ho : o.op = .unOp op t x) (hx : opd P t x = some x')
    (hu : ev s.env x' = some u) (hz : unA op u = some z) : Snd P C n F s a W id o z s.heap := by
  have hux := (opd_ok r hx hu).1
  unfold unA at hz
  split at hz
  · simp only [RepA] at hux
    split at hz
    · cases hz; refine Snd.scal r ?_ rfl; simp [execOp, ho, hux.wInv.1, Op.unary]
    · cases hz
  · simp only [RepA] at hux
    split at hz
    · cases hz; refine Snd.scal r ?_ rfl; simp [execOp, ho, hux.wInv.1, Op.unary, Op.intArith]
    · cases hz
  · cases hz

theorem slInvV {ok : Nat → Prop} {sz : Nat} {l : List PV} {v : Value} (r : RepC W ok (.sl sz l) [v]) : ∃ ao cap, v = .slice ao l.length cap := by
  rcases r.slInv with ⟨h1, ao, h2⟩ | ⟨b, off, cap, c, h2, _⟩
  · simp at h2; exact ⟨ao, 0, by rw [h2, h1]; rfl⟩
  · simp at h2; exact ⟨_, cap, h2⟩

theorem snd_len_str (r : RelAt C n F s a W hdr ow) {as : Array Operand} {ts : Array TypeId} {x : Operand} {x' : Opd} {t : TypeId} {b : ByteArray} (ho : o.op = .call { callee := .builtin .len, args := as, argTypes := ts })
    (ha : as.toList = [x]) (ht : ts.toList = [t]) (hd : P.underlying t = some .string) (hx : opd P t x = some x') (hu : ev s.env x' = some (.v (.w (.string b)))) :
    Snd P C n F s a W id o (.v (.w (.int .i64 b.size))) s.heap := by
  obtain rfl : as = #[x] := Array.toList_inj.1 (by simpa using ha)
  obtain rfl : ts = #[t] := Array.toList_inj.1 (by simpa using ht)
  have hux := (opd_ok r hx hu).1
  simp only [RepA] at hux
  refine Snd.scal r ?_ rfl
  simp [execOp, ho, resolve, invoke, builtin, Builtin.len_, run_underlying hd, hux.wInv.1, goInt]

theorem snd_len_row (r : RelAt C n F s a W hdr ow) {as : Array Operand} {ts : Array TypeId} {x : Operand} {x' : Opd} {t e : TypeId} {u : AV} {sz : Nat} {l : List PV} (ho : o.op = .call { callee := .builtin .len, args := as, argTypes := ts })
    (ha : as.toList = [x]) (ht : ts.toList = [t]) (hd : P.underlying t = some (.slice e)) (hx : opd P t x = some x') (hu : ev s.env x' = some u) (hl : rdRow s.heap u = some (sz, l)) :
    Snd P C n F s a W id o (.v (.w (.int .i64 l.length))) s.heap := by
  obtain rfl : as = #[x] := Array.toList_inj.1 (by simpa using ha)
  obtain rfl : ts = #[t] := Array.toList_inj.1 (by simpa using ht)
  obtain ⟨ao, cap, hv⟩ := slInvV (rdRow_ok r (opd_ok r hx hu).1 hl)
  refine Snd.scal r ?_ rfl
  simp [execOp, ho, resolve, invoke, builtin, Builtin.len_, run_underlying hd, hv, goInt]

theorem snd_len_sub (r : RelAt C n F s a W hdr ow) {as : Array Operand} {ts : Array TypeId} {x : Operand} {x' : Opd} {t e : TypeId} {k lo m : Nat} (ho : o.op = .call { callee := .builtin .len, args := as, argTypes := ts })
    (ha : as.toList = [x]) (ht : ts.toList = [t]) (hd : P.underlying t = some (.slice e)) (hx : opd P t x = some x') (hu : ev s.env x' = some (.sub k lo m)) (hk : (find s.heap k).isSome = true) :
    Snd P C n F s a W id o (.v (.w (.int .i64 m))) s.heap := by
  obtain rfl : as = #[x] := Array.toList_inj.1 (by simpa using ha)
  obtain rfl : ts = #[t] := Array.toList_inj.1 (by simpa using ht)
  have hux := (opd_ok r hx hu).1
  simp only [RepA] at hux
  obtain ⟨en, hk⟩ := Option.isSome_iff_exists.1 hk
  obtain ⟨b, o', m', c, _, hv⟩ := hux en hk
  refine Snd.scal r ?_ rfl
  simp [execOp, ho, resolve, invoke, builtin, Builtin.len_, run_underlying hd, hv, goInt]

theorem nlen_ok (r : RelAt C n F s a W hdr ow) {u : AV} {v : Value} {m : Nat} (hu : RepA W (OK C W s.heap ow) hdr s.heap u v) (hl : nlen s.heap u = some m) : ∃ ao cap, v = .slice ao m cap := by
  unfold nlen at hl
  split at hl
  · rename_i id
    split at hl
    · rename_i e he
      split at hl
      · rename_i hz
        split at hl
        · rename_i g rest hle
          have hsp : sp g = false := by cases hs : sp g <;> simp [hs] at hl ⊢
          rw [if_neg (by rw [hsp]; simp)] at hl
          cases hl
          simp only [RepA] at hu
          rw [hu e he]
          rcases (r.mem.ent id e he).flat hz.1 hz.2 hle hsp with ⟨h1, _, ao, h2⟩ | ⟨b, off, cap, c, _, h2, _⟩
          · exact ⟨ao, 0, by rw [h2, h1]; rfl⟩
          · exact ⟨_, _, h2⟩
        · cases hl
      · cases hl
    · cases hl
  · cases hl

theorem snd_len_n (r : RelAt C n F s a W hdr ow) {as : Array Operand} {ts : Array TypeId} {x : Operand} {x' : Opd} {t e : TypeId} {u : AV} {m : Nat} (ho : o.op = .call { callee := .builtin .len, args := as, argTypes := ts })
    (ha : as.toList = [x]) (ht : ts.toList = [t]) (hd : P.underlying t = some (.slice e)) (hx : opd P t x = some x') (hu : ev s.env x' = some u) (hl : nlen s.heap u = some m) :
    Snd P C n F s a W id o (.v (.w (.int .i64 m))) s.heap := by
  obtain rfl : as = #[x] := Array.toList_inj.1 (by simpa using ha)
  obtain rfl : ts = #[t] := Array.toList_inj.1 (by simpa using ht)
  obtain ⟨ao, cap, hv⟩ := nlen_ok r (opd_ok r hx hu).1 hl
  refine Snd.scal r ?_ rfl
  simp [execOp, ho, resolve, invoke, builtin, Builtin.len_, run_underlying hd, hv, goInt]

theorem snd_mm (r : RelAt C n F s a W hdr ow) {mx : Bool} {as : Array Operand} {ts : Array TypeId} {x y : Operand} {x' y' : Opd} {t : TypeId} {k k' : IntKind} {i j : Int}
    (ho : o.op = .call { callee := .builtin (if mx = true then .max else .min), args := as, argTypes := ts }) (ha : as.toList = [x, y]) (hx : opd P t x = some x') (hy : opd P t y = some y')
    (hu : ev s.env x' = some (.v (.w (.int k i)))) (hv : ev s.env y' = some (.v (.w (.int k' j)))) :
    Snd P C n F s a W id o (.v (.w (.int k (if mx = true then (if j > i then j else i) else (if j < i then j else i))))) s.heap := by
  obtain rfl : as = #[x, y] := Array.toList_inj.1 (by simpa using ha)
  have hux := (opd_ok r hx hu).1
  have hvy := (opd_ok r hy hv).1
  simp only [RepA] at hux hvy
  refine Snd.scal r ?_ rfl
  cases mx
  · simp [execOp, ho, resolve, invoke, builtin, Builtin.min_, Builtin.min2, hux.wInv.1, hvy.wInv.1]
  · simp [execOp, ho, resolve, invoke, builtin, Builtin.max_, Builtin.max2, hux.wInv.1, hvy.wInv.1]

theorem snd_mmS (r : RelAt C n F s a W hdr ow) {mx : Bool} {as : Array Operand} {ts : Array TypeId} {x y : Operand} {x' y' : Opd} {t : TypeId} {i j : ByteArray}
    (ho : o.op = .call { callee := .builtin (if mx = true then .max else .min), args := as, argTypes := ts }) (ha : as.toList = [x, y]) (hx : opd P t x = some x') (hy : opd P t y = some y')
    (hu : ev s.env x' = some (.v (.w (.string i)))) (hv : ev s.env y' = some (.v (.w (.string j)))) :
    Snd P C n F s a W id o (.v (.w (.string (if mx = true then (if slt i j = true then j else i) else (if slt i j = true ∨ i = j then i else j))))) s.heap := by
  obtain rfl : as = #[x, y] := Array.toList_inj.1 (by simpa using ha)
  have hux := (opd_ok r hx hu).1
  have hvy := (opd_ok r hy hv).1
  simp only [RepA] at hux hvy
  refine Snd.scal r ?_ rfl
  have hs : Op.bytesLess i.toList j.toList = slt i j := rfl
  cases mx
  · simp [execOp, ho, resolve, invoke, builtin, Builtin.min_, Builtin.min2, hux.wInv.1, hvy.wInv.1, Op.stringOp, eq_toList, asBool, hs]
  · simp [execOp, ho, resolve, invoke, builtin, Builtin.max_, Builtin.max2, hux.wInv.1, hvy.wInv.1, Op.stringOp, eq_toList, asBool, hs]
    cases h : slt i j <;> rfl

theorem run_eqBool {t : TypeId} {i j : Bool} (ht : P.underlying t = some .bool) : (Op.equal t (.bool i) (.bool j) : Sem Bool).run P W = .ok (i == j) W := by
  unfold Op.equal
  exact run_equalIn_bool' W 9999 t i j ht

theorem snd_eqb (r : RelAt C n F s a W hdr ow) {ng : Bool} {x y : Operand} {x' y' : Opd} {t t' : TypeId} {i j : Bool} (ho : o.op = .binOp (if ng = true then .neq else .eql) t x y t') (ht : P.underlying t = some .bool) (hx : opd P t x = some x') (hy : opd P t y = some y')
    (hu : ev s.env x' = some (.v (.w (.bool i)))) (hv : ev s.env y' = some (.v (.w (.bool j)))) : Snd P C n F s a W id o (.v (.w (.bool (if ng = true then !(i == j) else i == j)))) s.heap := by
  have hux := (opd_ok r hx hu).1
  have hvy := (opd_ok r hy hv).1
  simp only [RepA] at hux hvy
  refine Snd.scal r ?_ rfl
  simp only [execOp, ho, hux.wInv.1, hvy.wInv.1]
  cases ng
  · simp [eqGuard, binOp, run_eqBool ht]
  · simp [eqGuard, binOp, run_eqBool ht]

theorem asI_ok {ok : Nat → Prop} {H : Heap} {x : AV} {v : Value} {i : Int} (h : asI x = some i) (hx : RepA W ok hdr H x v) : ∃ k, v = .int k i := by
  unfold asI at h
  split at h
  · cases h; simp only [RepA] at hx; exact ⟨_, hx.wInv.1⟩
  · cases h

theorem opdI_ok (r : RelAt C n F s a W hdr ow) {x : Operand} {x' : Opd} {t : TypeId} {i : Int} (hx : opd P t x = some x') (h : (ev s.env x').bind asI = some i) : ∃ k, a.eval x = .int k i := by
  cases e : ev s.env x' with
  | none => rw [e] at h; cases h
  | some u => rw [e] at h; exact asI_ok h (opd_ok r hx e).1

theorem bytes_get (b : ByteArray) (i : Nat) : b[i]? = b.data.toList[i]? := by
  have hs : b.size = b.data.toList.length := Array.length_toList.symm
  by_cases h : i < b.size
  · rw [getElem?_pos b i h, List.getElem?_eq_getElem (by omega)]; rfl
  · rw [getElem?_neg b i h, List.getElem?_eq_none (by omega)]

theorem snd_six (r : RelAt C n F s a W hdr ow) {x y : Operand} {x' y' : Opd} {t t1 t2 : TypeId} {b : ByteArray} {i : Int} {c : UInt8} (ho : o.op = .index t x y) (hd : P.underlying t = some .string)
    (hx : opd P t1 x = some x') (hy : opd P t2 y = some y') (hu : ev s.env x' = some (.v (.w (.string b)))) (hv : (ev s.env y').bind asI = some i) (h0 : 0 ≤ i) (hc : b.data.toList[i.toNat]? = some c) :
    Snd P C n F s a W id o (.v (.w (.int .u8 c.toNat))) s.heap := by
  have hux := (opd_ok r hx hu).1
  simp only [RepA] at hux
  obtain ⟨k, hk⟩ := opdI_ok r hy hv
  refine Snd.scal r ?_ rfl
  rw [← bytes_get] at hc
  simp [execOp, ho, Instr.index, run_underlying hd, hux.wInv.1, hk, asIntOf, h0, hc]

theorem run_bnds (r : RelAt C n F s a W hdr ow) {isS : Bool} {ln cap : Nat} {lo hi : Option Operand} {lo' hi' : Option Opd} {i j : Nat} (hlo : optO P lo = some lo') (hhi : optO P hi = some hi') (hc : ln ≤ cap) (h : bnds s.env ln lo' hi' = some (i, j)) :
    (Instr.sliceBounds isS ln cap (lo.map a.eval) (hi.map a.eval) none).run P W = .ok (i, j, cap) W ∧ i ≤ j ∧ j ≤ ln := by
  unfold bnds at h
  split at h
  · rename_i q p hq hp
    split at h
    · rename_i hb
      simp only [Option.some.injEq, Prod.mk.injEq] at h
      obtain ⟨rfl, rfl⟩ := h
      refine ⟨?_, by omega, by omega⟩
      have hlo2 : (lo = none ∧ p = 0) ∨ ∃ x k, lo = some x ∧ a.eval x = .int k p := by
        cases lo with
        | none => simp [optO] at hlo; subst hlo; simp at hp; exact .inl ⟨rfl, hp.symm⟩
        | some x =>
          simp only [optO, Option.map_eq_some_iff] at hlo
          obtain ⟨y, hy, rfl⟩ := hlo
          obtain ⟨k, hk⟩ := opdI_ok r hy hp
          exact .inr ⟨x, k, rfl, hk⟩
      have hhi2 : (hi = none ∧ q = ln) ∨ ∃ x k, hi = some x ∧ a.eval x = .int k q := by
        cases hi with
        | none => simp [optO] at hhi; subst hhi; simp at hq; exact .inl ⟨rfl, hq.symm⟩
        | some x =>
          simp only [optO, Option.map_eq_some_iff] at hhi
          obtain ⟨y, hy, rfl⟩ := hhi
          obtain ⟨k, hk⟩ := opdI_ok r hy hq
          exact .inr ⟨x, k, rfl, hk⟩
      rcases hlo2 with ⟨rfl, rfl⟩ | ⟨x, k, rfl, hk⟩ <;> rcases hhi2 with ⟨rfl, rfl⟩ | ⟨y, k2, rfl, hk2⟩
      · simp [Instr.sliceBounds]
      · have : q ≤ cap := by omega
        have : 0 ≤ q := by omega
        cases isS <;> simp [Instr.sliceBounds, Instr.sliceBound, hk2, asIntOf, *]
      · have : p ≤ ln := by omega
        have : 0 ≤ p := by omega
        simp [Instr.sliceBounds, Instr.sliceBound, hk, asIntOf, *]
      · have : q ≤ cap := by omega
        have : 0 ≤ q := by omega
        have : 0 ≤ p := by omega
        have : p ≤ q := by omega
        cases isS <;> simp [Instr.sliceBounds, Instr.sliceBound, hk, hk2, asIntOf, *] <;> (intro hh; omega)
    · cases h
  · cases h

theorem snd_sls (r : RelAt C n F s a W hdr ow) {x : Operand} {lo hi : Option Operand} {x' : Opd} {lo' hi' : Option Opd} {t t1 : TypeId} {b : ByteArray} {i j : Nat} (ho : o.op = .slice t x lo hi none) (hd : P.underlying t = some .string)
    (hx : opd P t1 x = some x') (hlo : optO P lo = some lo') (hhi : optO P hi = some hi') (hu : ev s.env x' = some (.v (.w (.string b)))) (hb : bnds s.env b.size lo' hi' = some (i, j)) :
    Snd P C n F s a W id o (.v (.w (.string (b.extract i j)))) s.heap := by
  have hux := (opd_ok r hx hu).1
  simp only [RepA] at hux
  obtain ⟨h1, h2, h3⟩ := run_bnds (isS := false) r hlo hhi (Nat.le_refl _) hb
  refine Snd.scal r ?_ rfl
  simp [execOp, ho, Instr.sliceAt, Instr.slice, run_underlying hd, hux.wInv.1, h1]

theorem snd_conv (r : RelAt C n F s a W hdr ow) {x : Operand} {x' : Opd} {t t' t1 : TypeId} {k k0 k' : IntKind} {i : Int} (ho : o.op = .convert t t' x) (hd : P.underlying t = some (.int k0)) (hd' : P.underlying t' = some (.int k)) (hx : opd P t1 x = some x')
    (hu : ev s.env x' = some (.v (.w (.int k' i)))) : Snd P C n F s a W id o (.v (.w (.int k (k.wrap i)))) s.heap := by
  have hux := (opd_ok r hx hu).1
  simp only [RepA] at hux
  refine Snd.scal r ?_ rfl
  simp [execOp, ho, convert, run_underlying hd, run_underlying hd', hux.wInv.1, Conv.intToInt]

theorem snd_convS (r : RelAt C n F s a W hdr ow) {x : Operand} {x' : Opd} {t t' t1 : TypeId} {u : AV} (ho : o.op = .convert t t' x) (hd : P.underlying t = some .string) (hd' : P.underlying t' = some .string) (hx : opd P t1 x = some x')
    (hu : ev s.env x' = some u) (hs : ∃ b, u = .v (.w (.string b))) : Snd P C n F s a W id o u s.heap := by
  obtain ⟨b, rfl⟩ := hs
  have hux := (opd_ok r hx hu).1
  simp only [RepA] at hux
  refine Snd.scal r ?_ rfl
  simp [execOp, ho, convert, run_underlying hd, run_underlying hd', hux.wInv.1]

theorem snd_chk (r : RelAt C n F s a W hdr ow) {x : Operand} {x' : Opd} {t1 : TypeId} {u : AV} (ho : o.op = .nilCheck x) (hx : opd P t1 x = some x')
    (hu : ev s.env x' = some u) (hs : (∃ cs, u = .rp cs) ∨ ∃ f cs, u = .fn f cs) : Snd P C n F s a W id o u s.heap := by
  obtain ⟨h1, h2⟩ := opd_ok r hx hu
  refine Snd.pure r ?_ h1 h2
  rcases hs with ⟨cs, rfl⟩ | ⟨f, cs, rfl⟩
  · simp only [RepA] at h1
    obtain ⟨b, o', c, h1, _⟩ := h1
    simp [execOp, ho, h1]
  · simp only [RepA] at h1
    obtain ⟨vs, h1, _⟩ := h1
    simp [execOp, ho, h1]

theorem snd_chkP (r : RelAt C n F s a W hdr ow) {x : Operand} {x' : Opd} {t1 : TypeId} {k i off : Nat} (ho : o.op = .nilCheck x) (hx : opd P t1 x = some x')
    (hu : ev s.env x' = some (.ptr k i off)) (hk : (find s.heap k).isSome = true) : Snd P C n F s a W id o (.ptr k i off) s.heap := by
  obtain ⟨h1, h2⟩ := opd_ok r hx hu
  refine Snd.pure r ?_ h1 h2
  obtain ⟨e, he⟩ := Option.isSome_iff_exists.1 hk
  simp only [RepA] at h1
  obtain ⟨b, o', n', c, _, h1⟩ := h1 e he
  simp [execOp, ho, h1]

theorem evs_ok (r : RelAt C n F s a W hdr ow) : ∀ {xs : List Operand} {ys : List Opd} {l : List AV}, mapO (opd P 0) xs = some ys → evs s.env ys = some l →
    RepAs W (OK C W s.heap ow) hdr s.heap l (xs.map a.eval) ∧ ∀ i, AV.mens l i → F i
  | [], ys, l, hx, hl => by simp [mapO] at hx; subst hx; simp [evs] at hl; subst hl; simp [RepAs, AV.mens]
  | x :: xs, ys, l, hx, hl => by
    simp only [mapO] at hx
    split at hx
    · rename_i y ys' h1 h2
      cases hx
      simp only [evs] at hl
      split at hl
      · rename_i u us h3 h4
        cases hl
        obtain ⟨r1, r2⟩ := opd_ok r h1 h3
        obtain ⟨r3, r4⟩ := evs_ok r h2 h4
        exact ⟨by simp only [List.map_cons, RepAs]; exact ⟨r1, r3⟩, fun i hi => by simp only [AV.mens] at hi; exact hi.elim (r2 i) (r4 i)⟩
      · cases hl
    · cases hx

theorem snd_mkf (r : RelAt C n F s a W hdr ow) {f : FuncId} {fi caps : Array Operand} {ys : List Opd} {l : List AV} (ho : o.op = .makeFunc (.func f) fi caps) (hf : fi.size = 0) (hx : mapO (opd P 0) caps.toList = some ys) (hl : evs s.env ys = some l) :
    Snd P C n F s a W id o (.fn f l) s.heap := by
  obtain ⟨h1, h2⟩ := evs_ok r hx hl
  obtain rfl : fi = #[] := Array.eq_empty_of_size_eq_zero hf
  refine Snd.pure r (v := .func (.func f) #[] (caps.map a.eval)) ?_ ?_ (by simpa [AV.men] using h2)
  · simp [execOp, ho, Instr.makeFunc]
  · simp only [RepA]; exact ⟨_, by congr 1; apply Array.ext'; simp, h1⟩

theorem RepAs.get {ok : Nat → Prop} {H : Heap} : ∀ {l : List AV} {vs : List Value} {i : Nat} {x : AV}, RepAs W ok hdr H l vs → l[i]? = some x → ∃ v, vs[i]? = some v ∧ RepA W ok hdr H x v
  | [], _, _, _, _, h => by simp at h
  | _ :: _, [], _, _, r, _ => by simp [RepAs] at r
  | y :: l, v :: vs, 0, x, r, h => by simp only [RepAs] at r; simp at h; subst h; exact ⟨v, by simp, r.1⟩
  | y :: l, v :: vs, i + 1, x, r, h => by simp only [RepAs] at r; simp at h; simpa using RepAs.get r.2 h

theorem mens_get : ∀ {l : List AV} {i : Nat} {x : AV} {k : Nat}, l[i]? = some x → x.men k → AV.mens l k
  | [], _, _, _, h, _ => by simp at h
  | y :: l, 0, x, k, h, hk => by simp at h; subst h; simp [AV.mens, hk]
  | y :: l, i + 1, x, k, h, hk => by simp at h; simp only [AV.mens]; exact .inr (mens_get h hk)

theorem snd_ext (r : RelAt C n F s a W hdr ow) {x : Operand} {x' : Opd} {t1 : TypeId} {i : Nat} {l : List AV} {u : AV} (ho : o.op = .extract x i) (hx : opd P t1 x = some x')
    (hu : ev s.env x' = some (.tup l)) (hl : l[i]? = some u) : Snd P C n F s a W id o u s.heap := by
  obtain ⟨h1, h2⟩ := opd_ok r hx hu
  simp only [RepA] at h1
  obtain ⟨vs, h1, h3⟩ := h1
  obtain ⟨v, hv, h4⟩ := h3.get hl
  refine Snd.pure r ?_ h4 (fun k hk => h2 k (by simp only [AV.men]; exact mens_get hl hk))
  simp [execOp, ho, h1, Instr.extract, hv]

theorem snd_mm3 (r : RelAt C n F s a W hdr ow) {mx : Bool} {as : Array Operand} {ts : Array TypeId} {x y z : Operand} {x' y' z' : Opd} {t : TypeId} {k k' k'' : IntKind} {i j m : Int}
    (ho : o.op = .call { callee := .builtin (if mx = true then .max else .min), args := as, argTypes := ts }) (ha : as.toList = [x, y, z]) (hx : opd P t x = some x') (hy : opd P t y = some y') (hz : opd P t z = some z')
    (hu : ev s.env x' = some (.v (.w (.int k i)))) (hv : ev s.env y' = some (.v (.w (.int k' j)))) (hw : ev s.env z' = some (.v (.w (.int k'' m)))) :
    Snd P C n F s a W id o (.v (.w (.int k (if mx = true then (if m > (if j > i then j else i) then m else (if j > i then j else i)) else (if m < (if j < i then j else i) then m else (if j < i then j else i)))))) s.heap := by
  obtain rfl : as = #[x, y, z] := Array.toList_inj.1 (by simpa using ha)
  have hux := (opd_ok r hx hu).1
  have hvy := (opd_ok r hy hv).1
  have hwz := (opd_ok r hz hw).1
  simp only [RepA] at hux hvy hwz
  refine Snd.scal r ?_ rfl
  cases mx
  · simp [execOp, ho, resolve, invoke, builtin, Builtin.min_, Builtin.min2, hux.wInv.1, hvy.wInv.1, hwz.wInv.1]
  · simp [execOp, ho, resolve, invoke, builtin, Builtin.max_, Builtin.max2, hux.wInv.1, hvy.wInv.1, hwz.wInv.1]

end
end Go.AM
/- The operations that read memory or make places. -/
set_option linter.all false
namespace Go.AM
open Go
variable [dr : Inhabited Prop]

section
variable {P : Program} {C : Cx} {n : Nat} {F : Nat → Prop} {s : St} {a : Act} {W : World} {hdr : Nat → Value} {ow : Nat → Option Nat} {id : Nat} {o : Oper}

theorem known_info {t : TypeId} (h : knownT P t = true) : ∃ i d, P.info? t = some i ∧ P.underlying t = some d ∧ szT P t = i.size := by
  simp only [knownT, Bool.and_eq_true, Option.isSome_iff_exists] at h
  obtain ⟨⟨i, hi⟩, d, hd⟩ := h
  exact ⟨i, d, hi, hd, by simp [szT, Program.cellsOf, hi]⟩

theorem run_sizeOf {t : TypeId} (h : knownT P t = true) (w : World) : (sizeOf t).run P w = .ok (szT P t) w := by
  obtain ⟨i, d, h1, h2, h3⟩ := known_info h
  simp [sizeOf, typeInfo, h1, h3]

theorem run_isAgg {t : TypeId} (h : knownT P t = true) (w : World) : (isAgg t).run P w = .ok (aggT P t) w := by
  obtain ⟨i, d, h1, h2, h3⟩ := known_info h
  cases d <;> simp [isAgg, run_underlying h2, aggT, h2]

theorem cell_row {b : Nat} {c : List Value} (h : World.row W b c) (j : Nat) : W.cell? ⟨b, j, none⟩ = c[j]? := by
  obtain ⟨t, fr, h⟩ := h
  rw [cell_of_row W b j c.toArray t fr h]; simp

theorem run_part {t : TypeId} (h : knownT P t = true) (cs : Array Value) (off : Nat) (w : World) :
    (part t cs off).run P w = if aggT P t = true then .ok (.agg (cs.extract off (off + szT P t))) w else match cs[off]? with | some v => .ok v w | none => .halt (.stuck "part: no such cell") w := by
  simp only [part, Sem.run_bind, run_isAgg h, Result.andThen_ok, Sem.run_ite]
  split
  · simp [run_sizeOf h]
  · cases cs[off]? <;> simp

theorem extract_eq (vs : List Value) (off sz : Nat) : (vs.toArray.extract off (off + sz)) = ((vs.drop off).take sz).toArray := by
  apply Array.ext'
  simp [List.drop_take]

/-- A part of an aggregate. -/
theorem snd_part (r : RelAt C n F s a W hdr ow) {t : TypeId} (hk : knownT P t = true) {cs : List PV} {v : Value} {off : Nat} {p : PV} (hv : RepV W (OK C W s.heap ow) (.st cs) v) (h : cellRd cs (aggT P t) off (szT P t) = some p)
    (hrun : ∀ vs : List Value, v = .agg vs.toArray → (execOp a.eval o).run P W = ((part t vs.toArray off).run P W).andThen fun v w => .ok (.value v) w) :
    Snd P C n F s a W id o (.v p) s.heap := by
  obtain ⟨vs, rfl, h1, h2⟩ := hv.stInv
  have hr := hrun vs rfl
  have hc := cellRd_ok h1 h2 h
  rw [run_part hk] at hr
  by_cases ha : aggT P t = true
  · rw [if_pos ha] at hr hc
    rw [extract_eq] at hr
    exact Snd.pure r hr (by simp only [RepA]; exact hc.1) (by simp [AV.men])
  · rw [if_neg ha] at hr hc
    obtain ⟨v, hv, hc⟩ := hc
    have hv' : vs.toArray[off]? = some v := by simpa using hv
    rw [hv'] at hr
    exact Snd.pure r hr (by simp only [RepA]; exact hc) (by simp [AV.men])

theorem snd_fld (r : RelAt C n F s a W hdr ow) {x : Operand} {x' : Opd} {t t1 : TypeId} {i : Nat} {fs : Array Field} {f : Field} {cs : List PV} {p : PV} (ho : o.op = .field t x i) (hd : P.underlying t = some (.struct fs)) (hf : fs[i]? = some f)
    (hk : knownT P f.type = true) (hx : opd P t1 x = some x') (hu : ev s.env x' = some (.v (.st cs))) (h : cellRd cs (aggT P f.type) f.offset (szT P f.type) = some p) : Snd P C n F s a W id o (.v p) s.heap := by
  have hux := (opd_ok r hx hu).1
  simp only [RepA] at hux
  refine snd_part r hk hux h fun vs hv => ?_
  simp [execOp, ho, Instr.field, run_underlying hd, hf, hv, asAgg]

theorem snd_aix (r : RelAt C n F s a W hdr ow) {x y : Operand} {x' y' : Opd} {t e t1 t2 : TypeId} {m : Nat} {j : Int} {cs : List PV} {p : PV} (ho : o.op = .index t x y) (hd : P.underlying t = some (.array m e))
    (hk : knownT P e = true) (hx : opd P t1 x = some x') (hy : opd P t2 y = some y') (hu : ev s.env x' = some (.v (.st cs))) (hj : (ev s.env y').bind asI = some j) (h0 : 0 ≤ j) (h1 : j < m)
    (h : cellRd cs (aggT P e) (j.toNat * szT P e) (szT P e) = some p) : Snd P C n F s a W id o (.v p) s.heap := by
  have hux := (opd_ok r hx hu).1
  obtain ⟨k, hj⟩ := opdI_ok r hy hj
  simp only [RepA] at hux
  refine snd_part r hk hux h fun vs hv => ?_
  simp [execOp, ho, Instr.index, run_underlying hd, hv, hj, asIntOf, h0, h1, run_sizeOf hk]

/-- The place of an element. -/
theorem elem_row {ok : Nat → Prop} {sz : Nat} {l : List PV} {c : List Value} {off : Nat} {i : Nat} {p : PV} (hsz : sz ≠ 0) (r : RepL W ok sz l ((c.drop off).take (l.length * sz))) (h : l[i]? = some p) :
    RepC W ok p ((c.drop (off + i * sz)).take sz) ∧ p.cells.length = sz ∧ off + (i + 1) * sz ≤ c.length := by
  obtain ⟨h1, h2⟩ := r.get h
  have hi : i < l.length := (List.getElem?_eq_some_iff.1 h).1
  have hle : (i + 1) * sz ≤ l.length * sz := Nat.mul_le_mul_right sz hi
  have h3 : (i + 1) * sz = i * sz + sz := by rw [Nat.add_mul, Nat.one_mul]
  have e : (((c.drop off).take (l.length * sz)).drop (i * sz)).take sz = (c.drop (off + i * sz)).take sz := by
    rw [List.drop_take, List.take_take, List.drop_drop]
    congr 1
    omega
  rw [e] at h1
  simp only [List.length_take, List.length_drop] at h2
  have hpos : off + (i + 1) * sz ≤ c.length := by omega
  have hlen := (h1.cells).1.length
  simp only [Nat.mul_one, List.length_take, List.length_drop] at hlen
  exact ⟨h1, by omega, hpos⟩

theorem add_lit (b off m : Nat) : (⟨b, off, none⟩ : Addr).add m = ⟨b, off + m, none⟩ := by
  unfold Addr.add; split <;> simp_all

theorem snd_ia_v (r : RelAt C n F s a W hdr ow) {x y : Operand} {x' y' : Opd} {t e t1 t2 : TypeId} {l : List PV} {j : Int} {p : PV} (ho : o.op = .indexAddr t x y) (hd : P.underlying t = some (.slice e)) (hk : knownT P e = true) (hsz : szT P e ≠ 0)
    (hx : opd P t1 x = some x') (hy : opd P t2 y = some y') (hu : ev s.env x' = some (.v (.sl (szT P e) l))) (hj : (ev s.env y').bind asI = some j) (h0 : 0 ≤ j) (h : l[j.toNat]? = some p) :
    Snd P C n F s a W id o (.rp p.cells) s.heap := by
  have hux := (opd_ok r hx hu).1
  obtain ⟨k, hj⟩ := opdI_ok r hy hj
  simp only [RepA] at hux
  have hi : j.toNat < l.length := (List.getElem?_eq_some_iff.1 h).1
  rcases hux.slInv.slInv with ⟨h1, _⟩ | ⟨b, off, cap, c, h1, h2, h3, h4, h5, h6⟩
  · rw [h1] at h; simp at h
  · simp only [List.cons.injEq, and_true] at h1
    obtain ⟨g1, g2, g3⟩ := elem_row hsz h6 h
    have g4 := g1.cells
    refine Snd.pure r (v := .pointer (some ⟨b, off + j.toNat * szT P e, none⟩)) ?_ ?_ (by simp [AV.men])
    · have : j < (l.length : Int) := by omega
      simp [execOp, ho, Instr.indexAt, run_underlying hd, hj, h1, asIntOf, h0, this, run_sizeOf hk, add_lit]
    · simp only [RepA]
      exact ⟨b, _, c, rfl, h2, h3, by rw [g2]; exact g4.1, g4.2⟩

theorem snd_ia_h (r : RelAt C n F s a W hdr ow) {x y : Operand} {x' y' : Opd} {t e t1 t2 : TypeId} {q : Nat} {en : Ent} {j : Int} {p : PV} (ho : o.op = .indexAddr t x y) (hd : P.underlying t = some (.slice e)) (hk : knownT P e = true) (hsz : szT P e ≠ 0)
    (hx : opd P t1 x = some x') (hy : opd P t2 y = some y') (hu : ev s.env x' = some (.h q)) (hq : find s.heap q = some en) (hes : en.sz = szT P e) (hj : (ev s.env y').bind asI = some j) (h0 : 0 ≤ j) (h : en.l[j.toNat]? = some p) :
    Snd P C n F s a W id o (if en.fro = true then .rp p.cells else .ptr q j.toNat 0) s.heap := by
  obtain ⟨hux, hm⟩ := opd_ok r hx hu
  obtain ⟨k, hj⟩ := opdI_ok r hy hj
  simp only [RepA] at hux
  have hux := hux en hq
  have hi : j.toNat < en.l.length := (List.getElem?_eq_some_iff.1 h).1
  have hlt : j < (en.l.length : Int) := by omega
  rcases (r.mem.ent q en hq).plain (by rw [hes]; exact hsz) with ⟨h1, h2, _⟩ | ⟨h1, _⟩ | ⟨hf, b, off, cap, c, h1, h2, h3, h4, h5, h6⟩
  · rw [if_pos h1]
    rcases h2.slInv with ⟨h1, _⟩ | ⟨b, off, cap, c, h1, h2, h3, h4, h5, h6⟩
    · rw [h1] at h; simp at h
    · simp only [List.cons.injEq, and_true] at h1
      rw [hes] at h6
      obtain ⟨g1, g2, g3⟩ := elem_row hsz h6 h
      have g4 := g1.cells
      refine Snd.pure r (v := .pointer (some ⟨b, off + j.toNat * szT P e, none⟩)) ?_ ?_ (by simp [AV.men])
      · simp [execOp, ho, Instr.indexAt, run_underlying hd, hj, hux, h1, asIntOf, h0, hlt, run_sizeOf hk, add_lit]
      · simp only [RepA]
        exact ⟨b, _, c, rfl, h2, h3, by rw [g2]; exact g4.1, g4.2⟩
  · rw [h1] at h; simp at h
  · rw [if_neg (by rw [hf]; simp)]
    refine Snd.pure r (v := .pointer (some ⟨b, off + j.toNat * szT P e, none⟩)) ?_ ?_ (fun i hi => hm i (by simpa [AV.men] using hi))
    · simp [execOp, ho, Instr.indexAt, run_underlying hd, hj, hux, h2, asIntOf, h0, hlt, run_sizeOf hk, add_lit]
    · simp only [RepA]
      intro e' he'
      rw [hq] at he'; cases he'
      exact ⟨b, off, _, _, h2, by rw [Ent.w_of (by rw [hes]; exact hsz), hes]; rfl⟩

theorem snd_ia_s (r : RelAt C n F s a W hdr ow) {x y : Operand} {x' y' : Opd} {t e t1 t2 : TypeId} {q lo m : Nat} {en : Ent} {j : Int} (ho : o.op = .indexAddr t x y) (hd : P.underlying t = some (.slice e)) (hk : knownT P e = true) (hsz : szT P e ≠ 0)
    (hx : opd P t1 x = some x') (hy : opd P t2 y = some y') (hu : ev s.env x' = some (.sub q lo m)) (hq : find s.heap q = some en) (hes : en.sz = szT P e) (hj : (ev s.env y').bind asI = some j) (h0 : 0 ≤ j) (h1 : j < m) :
    Snd P C n F s a W id o (.ptr q (lo + j.toNat) 0) s.heap := by
  obtain ⟨hux, hm⟩ := opd_ok r hx hu
  obtain ⟨k, hj⟩ := opdI_ok r hy hj
  simp only [RepA] at hux
  obtain ⟨b, o', m', c, h2, h3⟩ := hux en hq
  refine Snd.pure r (v := .pointer (some ⟨b, o' + lo * en.w + j.toNat * szT P e, none⟩)) ?_ ?_ (fun i hi => hm i (by simpa [AV.men] using hi))
  · simp [execOp, ho, Instr.indexAt, run_underlying hd, hj, h3, asIntOf, h0, h1, run_sizeOf hk, add_lit]
  · simp only [RepA]
    intro e' he'
    rw [hq] at he'; cases he'
    refine ⟨b, o', _, _, h2, ?_⟩
    rw [Ent.w_of (by rw [hes]; exact hsz), hes, Nat.add_zero, Nat.add_mul, Nat.add_assoc]

theorem RepA.rpDrop {ok : Nat → Prop} {H : Heap} {cs : List PV} {b o : Nat} (m : Nat) (h : RepA W ok hdr H (.rp cs) (.pointer (some ⟨b, o, none⟩))) : RepA W ok hdr H (.rp (cs.drop m)) (.pointer (some ⟨b, o + m, none⟩)) := by
  simp only [RepA] at *
  obtain ⟨b', o', c, h1, h2, h3, h4, h5⟩ := h
  cases h1
  refine ⟨b, o + m, c, rfl, h2, h3, ?_, fun p hp => h5 p (List.mem_of_mem_drop hp)⟩
  have := h4.drop m
  rw [Nat.mul_one, List.drop_take, List.drop_drop] at this
  simpa [List.length_drop] using this

theorem snd_iaA_r (r : RelAt C n F s a W hdr ow) {x y : Operand} {x' y' : Opd} {t e t1 t2 : TypeId} {m : Nat} {cs : List PV} {j : Int} (ho : o.op = .indexAddr t x y) (hd : P.underlying t = some (.array m e)) (hk : knownT P e = true)
    (hx : opd P t1 x = some x') (hy : opd P t2 y = some y') (hu : ev s.env x' = some (.rp cs)) (hj : (ev s.env y').bind asI = some j) (h0 : 0 ≤ j) (h1 : j < m) :
    Snd P C n F s a W id o (.rp (cs.drop (j.toNat * szT P e))) s.heap := by
  have hux := (opd_ok r hx hu).1
  obtain ⟨k, hj⟩ := opdI_ok r hy hj
  have hux' := hux
  simp only [RepA] at hux
  obtain ⟨b, o', c, h2, _⟩ := hux
  rw [h2] at hux'
  refine Snd.pure r ?_ (hux'.rpDrop (j.toNat * szT P e)) (by simp [AV.men])
  simp [execOp, ho, Instr.indexAt, Instr.sureAddr, run_underlying hd, hj, h2, asIntOf, h0, h1, run_sizeOf hk, add_lit]

theorem RepA.ptrAdd {ok : Nat → Prop} {H : Heap} {q i off : Nat} {b o : Nat} (m : Nat) (h : RepA W ok hdr H (.ptr q i off) (.pointer (some ⟨b, o, none⟩))) : RepA W ok hdr H (.ptr q i (off + m)) (.pointer (some ⟨b, o + m, none⟩)) := by
  simp only [RepA] at *
  intro e he
  obtain ⟨b', o', n', c, h1, h2⟩ := h e he
  simp only [Value.pointer.injEq, Option.some.injEq, Addr.mk.injEq, and_true] at h2
  obtain ⟨rfl, rfl⟩ := h2
  exact ⟨b, o', n', c, h1, by simp [Nat.add_assoc]⟩

theorem ptr_addr (r : RelAt C n F s a W hdr ow) {q i off : Nat} {v : Value} {en : Ent} (hq : find s.heap q = some en) (h : RepA W (OK C W s.heap ow) hdr s.heap (.ptr q i off) v) : ∃ b o, v = .pointer (some ⟨b, o, none⟩) := by
  simp only [RepA] at h
  obtain ⟨b, o', n', c, _, h2⟩ := h en hq
  exact ⟨b, _, h2⟩

theorem snd_iaA_p (r : RelAt C n F s a W hdr ow) {x y : Operand} {x' y' : Opd} {t e t1 t2 : TypeId} {m : Nat} {q i off : Nat} {en : Ent} {j : Int} (ho : o.op = .indexAddr t x y) (hd : P.underlying t = some (.array m e)) (hk : knownT P e = true)
    (hx : opd P t1 x = some x') (hy : opd P t2 y = some y') (hu : ev s.env x' = some (.ptr q i off)) (hq : find s.heap q = some en) (hj : (ev s.env y').bind asI = some j) (h0 : 0 ≤ j) (h1 : j < m) :
    Snd P C n F s a W id o (.ptr q i (off + j.toNat * szT P e)) s.heap := by
  obtain ⟨hux, hm⟩ := opd_ok r hx hu
  obtain ⟨k, hj⟩ := opdI_ok r hy hj
  obtain ⟨b, o', h2⟩ := ptr_addr r hq hux
  rw [h2] at hux
  refine Snd.pure r ?_ (hux.ptrAdd (j.toNat * szT P e)) (fun i hi => hm i (by simpa [AV.men] using hi))
  simp [execOp, ho, Instr.indexAt, Instr.sureAddr, run_underlying hd, hj, h2, asIntOf, h0, h1, run_sizeOf hk, add_lit]

theorem run_fieldPlace {f : Field} (hk : knownT P f.type = true) (hz : szT P f.type ≠ 0) (b off : Nat) (w : World) : (fieldPlace ⟨b, off, none⟩ f).run P w = .ok ⟨b, off + f.offset, none⟩ w := by
  simp [fieldPlace, run_sizeOf hk, hz, add_lit]

theorem snd_fa_r (r : RelAt C n F s a W hdr ow) {x : Operand} {x' : Opd} {t t1 : TypeId} {i : Nat} {fs : Array Field} {f : Field} {cs : List PV} (ho : o.op = .fieldAddr t x i) (hd : P.underlying t = some (.struct fs)) (hf : fs[i]? = some f)
    (hk : knownT P f.type = true) (hz : szT P f.type ≠ 0) (hx : opd P t1 x = some x') (hu : ev s.env x' = some (.rp cs)) : Snd P C n F s a W id o (.rp (cs.drop f.offset)) s.heap := by
  have hux := (opd_ok r hx hu).1
  have hux' := hux
  simp only [RepA] at hux
  obtain ⟨b, o', c, h2, _⟩ := hux
  rw [h2] at hux'
  refine Snd.pure r ?_ (hux'.rpDrop f.offset) (by simp [AV.men])
  simp [execOp, ho, Instr.fieldAt, Instr.sureAddr, run_underlying hd, hf, h2, run_fieldPlace hk hz]

theorem snd_fa_p (r : RelAt C n F s a W hdr ow) {x : Operand} {x' : Opd} {t t1 : TypeId} {i q j off : Nat} {en : Ent} {fs : Array Field} {f : Field} (ho : o.op = .fieldAddr t x i) (hd : P.underlying t = some (.struct fs)) (hf : fs[i]? = some f)
    (hk : knownT P f.type = true) (hz : szT P f.type ≠ 0) (hx : opd P t1 x = some x') (hu : ev s.env x' = some (.ptr q j off)) (hq : find s.heap q = some en) : Snd P C n F s a W id o (.ptr q j (off + f.offset)) s.heap := by
  obtain ⟨hux, hm⟩ := opd_ok r hx hu
  obtain ⟨b, o', h2⟩ := ptr_addr r hq hux
  rw [h2] at hux
  refine Snd.pure r ?_ (hux.ptrAdd f.offset) (fun i hi => hm i (by simpa [AV.men] using hi))
  simp [execOp, ho, Instr.fieldAt, Instr.sureAddr, run_underlying hd, hf, h2, run_fieldPlace hk hz]

/-- Loading. -/
theorem run_loadVar {t : TypeId} (hk : knownT P t = true) {b off : Nat} {c : List Value} (hr : World.row W b c) :
    (aggT P t = true → off + szT P t ≤ c.length → (loadVar t ⟨b, off, none⟩).run P W = .ok (.agg ((c.drop off).take (szT P t)).toArray) W) ∧
    (aggT P t ≠ true → ∀ v, c[off]? = some v → (loadVar t ⟨b, off, none⟩).run P W = .ok v W) := by
  constructor
  · intro ha hl
    have hlen : ((c.drop off).take (szT P t)).length = szT P t := by simp; omega
    have h1 := run_loadCells_list (P := P) (w := W) ⟨b, off, none⟩ ((c.drop off).take (szT P t)) (by
      intro j v hj
      rw [add_lit, cell_row hr]
      rw [List.getElem?_take] at hj
      split at hj
      · rw [List.getElem?_drop] at hj; exact hj
      · cases hj)
    rw [hlen] at h1
    simp [loadVar, run_isAgg hk, ha, run_sizeOf hk, h1]
  · intro ha v hv
    have := cell_row hr off
    rw [hv] at this
    simp [loadVar, run_isAgg hk, ha, this]

theorem snd_ld (r : RelAt C n F s a W hdr ow) {x : Operand} {t : TypeId} {b off : Nat} {c : List Value} {cs : List PV} {p : PV} {m : Nat} (ho : o.op = .load t x) (hk : knownT P t = true) (hv : a.eval x = .pointer (some ⟨b, off + m, none⟩))
    (hr : World.row W b c) (hl : RepL W (OK C W s.heap ow) 1 cs ((c.drop off).take cs.length)) (hle : off + cs.length ≤ c.length) (hs : ∀ p ∈ cs, p.isSt = false) (h : cellRd cs (aggT P t) m (szT P t) = some p) : Snd P C n F s a W id o (.v p) s.heap := by
  have hc := cellRd_ok hl hs h
  obtain ⟨h1, h2⟩ := run_loadVar (P := P) (W := W) hk (off := off + m) hr
  by_cases ha : aggT P t = true
  · rw [if_pos ha] at hc
    obtain ⟨hc1, hc2⟩ := hc
    have hlen : ((c.drop off).take cs.length).length = cs.length := by simp; omega
    rw [hlen] at hc2
    have e : (((c.drop off).take cs.length).drop m).take (szT P t) = (c.drop (off + m)).take (szT P t) := by
      rw [List.drop_take, List.take_take, List.drop_drop]; congr 1; omega
    rw [e] at hc1
    refine Snd.pure r (v := .agg ((c.drop (off + m)).take (szT P t)).toArray) ?_ (by simp only [RepA]; exact hc1) (by simp [AV.men])
    have := h1 ha (by omega)
    simp [execOp, ho, Instr.loadAt, Instr.sureAddr, hv, this]
  · rw [if_neg ha] at hc
    obtain ⟨v, hc1, hc2⟩ := hc
    rw [List.getElem?_take] at hc1
    split at hc1
    · rw [List.getElem?_drop] at hc1
      refine Snd.pure r (v := v) ?_ (by simp only [RepA]; exact hc2) (by simp [AV.men])
      have := h2 ha v hc1
      simp [execOp, ho, Instr.loadAt, Instr.sureAddr, hv, this]
    · cases hc1

theorem snd_ld_r (r : RelAt C n F s a W hdr ow) {x : Operand} {x' : Opd} {t t1 : TypeId} {cs : List PV} {p : PV} (ho : o.op = .load t x) (hk : knownT P t = true) (hx : opd P t1 x = some x') (hu : ev s.env x' = some (.rp cs))
    (h : cellRd cs (aggT P t) 0 (szT P t) = some p) : Snd P C n F s a W id o (.v p) s.heap := by
  have hux := (opd_ok r hx hu).1
  simp only [RepA] at hux
  obtain ⟨b, off, c, h1, h2, h3, h4, h5⟩ := hux
  by_cases hn : cs = []
  · subst hn
    have hlen := h4.length
    unfold cellRd at h
    by_cases ha : aggT P t = true
    · rw [if_pos ha] at h
      by_cases hz : 0 + szT P t ≤ 0
      · have hz : szT P t = 0 := by omega
        simp [hz] at h
        subst h
        refine Snd.pure r (v := .agg #[]) ?_ (by simp only [RepA]; exact RepV.st .nil (by simp)) (by simp [AV.men])
        have h0 := run_loadCells_list (P := P) (w := W) ⟨b, off, none⟩ [] (by simp)
        simp at h0
        simp [execOp, ho, Instr.loadAt, Instr.sureAddr, h1, loadVar, run_isAgg hk, ha, run_sizeOf hk, hz, h0]
      · simp at hz; simp [hz] at h
    · rw [if_neg ha] at h; simp at h
  · have hlen := h4.length
    simp only [Nat.mul_one, List.length_take, List.length_drop] at hlen
    have : 0 < cs.length := List.length_pos_iff.2 hn
    exact snd_ld r (m := 0) ho hk h1 h3 h4 (by omega) h5 h

theorem snd_ld_p (r : RelAt C n F s a W hdr ow) {x : Operand} {x' : Opd} {t t1 : TypeId} {q i off : Nat} {en : Ent} {el p : PV} (ho : o.op = .load t x) (hk : knownT P t = true) (hx : opd P t1 x = some x') (hu : ev s.env x' = some (.ptr q i off))
    (hq : find s.heap q = some en) (hel : en.l[i]? = some el) (hoff : off < en.sz) (h : cellRd el.cells (aggT P t) off (szT P t) = some p) : Snd P C n F s a W id o (.v p) s.heap := by
  have hux := (opd_ok r hx hu).1
  simp only [RepA] at hux
  obtain ⟨b, o', n', cp, h1, h2⟩ := hux en hq
  have hsz : en.sz ≠ 0 := by omega
  rw [Ent.w_of hsz] at h2
  have key : ∃ c, World.row W b c ∧ RepL W (OK C W s.heap ow) en.sz en.l ((c.drop o').take (en.l.length * en.sz)) := by
    rcases (r.mem.ent q en hq).plain hsz with ⟨_, g2, _⟩ | ⟨g1, _⟩ | ⟨_, b2, off2, cap2, c, g1, g2, ⟨t', g3⟩, g4, g5, g6⟩
    · rcases g2.slInv with ⟨g1, _⟩ | ⟨b2, off2, cap2, c, g1, g2, g3, g4, g5, g6⟩
      · rw [g1] at hel; simp at hel
      · rw [h1] at g1; simp at g1; obtain ⟨⟨rfl, rfl⟩, _⟩ := g1; exact ⟨c, g3, g6⟩
    · rw [g1] at hel; simp at hel
    · rw [h1] at g2; simp at g2; obtain ⟨⟨rfl, rfl⟩, _⟩ := g2; exact ⟨c, ⟨t', _, g3⟩, g6⟩
  obtain ⟨c, k1, k2⟩ := key
  obtain ⟨g1, g2, g3⟩ := elem_row hsz k2 hel
  obtain ⟨g4, g5⟩ := g1.cells
  have hm : (i + 1) * en.sz = i * en.sz + en.sz := by rw [Nat.add_mul, Nat.one_mul]
  exact snd_ld r (m := off) ho hk h2 k1 (by rw [g2]; exact g4) (by omega) g5 h

/-- What a place of a row holds, read. -/
theorem run_ld_p (r : RelAt C n F s a W hdr ow) {t : TypeId} {q i off : Nat} {en : Ent} {el p : PV} {addr : Value} (hk : knownT P t = true) (hux : RepA W (OK C W s.heap ow) hdr s.heap (.ptr q i off) addr)
    (hq : find s.heap q = some en) (hel : en.l[i]? = some el) (hoff : off < en.sz) (h : cellRd el.cells (aggT P t) off (szT P t) = some p) :
    ∃ b o v, addr = .pointer (some ⟨b, o, none⟩) ∧ (loadVar t ⟨b, o, none⟩).run P W = .ok v W ∧ RepV W (OK C W s.heap ow) p v := by
  simp only [RepA] at hux
  obtain ⟨b, o', n', cp, h1, h2⟩ := hux en hq
  have hsz : en.sz ≠ 0 := by omega
  rw [Ent.w_of hsz] at h2
  have key : ∃ c, World.row W b c ∧ RepL W (OK C W s.heap ow) en.sz en.l ((c.drop o').take (en.l.length * en.sz)) := by
    rcases (r.mem.ent q en hq).plain hsz with ⟨_, g2, _⟩ | ⟨g1, _⟩ | ⟨_, b2, off2, cap2, c, g1, g2, ⟨t', g3⟩, g4, g5, g6⟩
    · rcases g2.slInv with ⟨g1, _⟩ | ⟨b2, off2, cap2, c, g1, g2, g3, g4, g5, g6⟩
      · rw [g1] at hel; simp at hel
      · rw [h1] at g1; simp at g1; obtain ⟨⟨rfl, rfl⟩, _⟩ := g1; exact ⟨c, g3, g6⟩
    · rw [g1] at hel; simp at hel
    · rw [h1] at g2; simp at g2; obtain ⟨⟨rfl, rfl⟩, _⟩ := g2; exact ⟨c, ⟨t', _, g3⟩, g6⟩
  obtain ⟨c, k1, k2⟩ := key
  obtain ⟨g1, g2, g3⟩ := elem_row hsz k2 hel
  obtain ⟨g4, g5⟩ := g1.cells
  have hm : (i + 1) * en.sz = i * en.sz + en.sz := by rw [Nat.add_mul, Nat.one_mul]
  have hl : RepL W (OK C W s.heap ow) 1 el.cells ((c.drop (o' + i * en.sz)).take el.cells.length) := by rw [g2]; exact g4
  have hle : o' + i * en.sz + el.cells.length ≤ c.length := by omega
  have hc := cellRd_ok hl g5 h
  obtain ⟨q1, q2⟩ := run_loadVar (P := P) (W := W) hk (off := o' + i * en.sz + off) k1
  refine ⟨b, o' + i * en.sz + off, ?_⟩
  by_cases ha : aggT P t = true
  · rw [if_pos ha] at hc
    obtain ⟨hc1, hc2⟩ := hc
    have hlen : ((c.drop (o' + i * en.sz)).take el.cells.length).length = el.cells.length := by simp; omega
    rw [hlen] at hc2
    have e : (((c.drop (o' + i * en.sz)).take el.cells.length).drop off).take (szT P t) = (c.drop (o' + i * en.sz + off)).take (szT P t) := by
      rw [List.drop_take, List.take_take, List.drop_drop]; congr 1; omega
    rw [e] at hc1
    exact ⟨_, h2, q1 ha (by omega), hc1⟩
  · rw [if_neg ha] at hc
    obtain ⟨v, hc1, hc2⟩ := hc
    rw [List.getElem?_take] at hc1
    split at hc1
    · rw [List.getElem?_drop] at hc1
      exact ⟨v, h2, q2 ha v hc1, hc2⟩
    · cases hc1

/-- A row of rows: a place in it. -/
theorem snd_ia_n (r : RelAt C n F s a W hdr ow) {x y : Operand} {x' y' : Opd} {t e t1 t2 : TypeId} {q : Nat} {en : Ent} {j : Int} (ho : o.op = .indexAddr t x y) (hd : P.underlying t = some (.slice e)) (hk : knownT P e = true) (hsz : szT P e = 1)
    (hx : opd P t1 x = some x') (hy : opd P t2 y = some y') (hu : ev s.env x' = some (.h q)) (hq : find s.heap q = some en) (hz : en.sz = 0) (hf : en.fro = false) (hj : (ev s.env y').bind asI = some j) (h0 : 0 ≤ j) (hlt : j.toNat + 1 < en.l.length) (hns : isSp en.l = false) :
    Snd P C n F s a W id o (.ptr q 0 j.toNat) s.heap := by
  obtain ⟨hux, hm⟩ := opd_ok r hx hu
  obtain ⟨k, hj⟩ := opdI_ok r hy hj
  simp only [RepA] at hux
  have hux := hux en hq
  obtain ⟨g, rest, hl⟩ : ∃ g rest, en.l = g :: rest := by
    cases e1 : en.l with
    | nil => rw [e1] at hlt; simp at hlt
    | cons g rest => exact ⟨g, rest, rfl⟩
  have h := (r.mem.ent q en hq).flat hz hf hl (by rw [hl] at hns; exact hns)
  rw [hl] at hlt
  simp only [List.length_cons] at hlt
  rcases h with ⟨h, _⟩ | ⟨b, off, cap, c, h1, h2, h3, h4, h5⟩
  · rw [h] at hlt; simp at hlt
  · have hlt2 : j < (rest.length : Int) := by omega
    refine Snd.pure r (v := .pointer (some ⟨b, off + j.toNat, none⟩)) ?_ ?_ (fun i hi => hm i (by simpa [AV.men] using hi))
    · simp [execOp, ho, Instr.indexAt, run_underlying hd, hj, hux, h2, asIntOf, h0, hlt2, run_sizeOf hk, add_lit, hsz]
    · simp only [RepA]
      intro e' he'
      rw [hq] at he'; cases he'
      exact ⟨b, off, _, _, h2, by simp⟩

/-- A row of rows: an element. -/
theorem nest_at (r : RelAt C n F s a W hdr ow) {q off : Nat} {en : Ent} {g : PV} {rest : List PV} {rf : Option (Nat × Nat)} {p : PV} {v : Value} (hv : RepA W (OK C W s.heap ow) hdr s.heap (.ptr q 0 off) v) (hq : find s.heap q = some en) (hz : en.sz = 0) (hf : en.fro = false) (hl : en.l = g :: rest) (hrf : decR g = some rf)
    (hp : rest[off]? = some p) : ∃ b o' cap c w, ow q = some b ∧ hdr q = .slice (some ⟨b, o', none⟩) rest.length cap ∧ World.rowO W b c ∧ o' + cap ≤ c.length ∧ rest.length ≤ cap ∧ v = .pointer (some ⟨b, o' + off, none⟩) ∧ c[o' + off]? = some w ∧
      NestL W (OK C W s.heap ow) hdr rf rest ((c.drop o').take rest.length) ∧ ((c.drop o').take rest.length)[off]? = some w := by
  simp only [RepA] at hv
  obtain ⟨b0, o0, n0, c0, k1, k2⟩ := hv en hq
  obtain ⟨_, _, g', rest', rf', hl', hrf', h⟩ := (r.mem.ent q en hq).nest hz hf hl hrf
  rw [hl] at hl'
  injection hl' with e1 e2
  subst e1 e2
  rw [hrf] at hrf'; cases hrf'
  have hlt : off < rest.length := (List.getElem?_eq_some_iff.1 hp).1
  rcases h with ⟨h, _⟩ | ⟨b, off', cap, c, h1, h2, h3, h4, h5, h6⟩
  · rw [h] at hlt; simp at hlt
  · rw [k1] at h2
    simp only [Value.slice.injEq, Option.some.injEq, Addr.mk.injEq, and_true] at h2
    obtain ⟨⟨rfl, rfl⟩, rfl, rfl⟩ := h2
    have hw : c[o0 + off]? = some (c[o0 + off]'(by omega)) := List.getElem?_eq_getElem (by omega)
    refine ⟨b0, o0, c0, c, _, h1, k1, h3, h4, h5, by rw [k2]; simp, hw, h6, ?_⟩
    rw [List.getElem?_take, if_pos hlt, List.getElem?_drop]; exact hw

/-- A row of rows that are all owned: an element. -/
theorem deep_at (r : RelAt C n F s a W hdr ow) {q off : Nat} {en : Ent} {g : PV} {rest : List PV} {c0 : Nat} {ov : Option (Nat × Nat)} {v : Value} (hv : RepA W (OK C W s.heap ow) hdr s.heap (.ptr q 0 off) v) (hq : find s.heap q = some en) (hz : en.sz = 0) (hf : en.fro = false) (hl : en.l = g :: rest) (hd : decD g = some (c0, ov))
    (hlt : off < rest.length) : ∃ b o' cap c w, ow q = some b ∧ hdr q = .slice (some ⟨b, o', none⟩) rest.length cap ∧ World.rowO W b c ∧ o' + cap ≤ c.length ∧ rest.length ≤ cap ∧ v = .pointer (some ⟨b, o' + off, none⟩) ∧ c[o' + off]? = some w ∧
      ∀ j v, j < rest.length → c[o' + j]? = some v → v = hdr (dAt c0 ov j) ∧ ∃ a m n, v = .slice a m n := by
  simp only [RepA] at hv
  obtain ⟨b0, o0, n0, cap0, k1, k2⟩ := hv en hq
  rcases (r.mem.ent q en hq).deep hz hf hl hd with ⟨h, _⟩ | ⟨b, off', cap, c, h1, h2, h3, h4, h5, h6⟩
  · rw [h] at hlt; simp at hlt
  · rw [k1] at h2
    simp only [Value.slice.injEq, Option.some.injEq, Addr.mk.injEq, and_true] at h2
    obtain ⟨⟨rfl, rfl⟩, rfl, rfl⟩ := h2
    have hw : c[o0 + off]? = some (c[o0 + off]'(by omega)) := List.getElem?_eq_getElem (by omega)
    refine ⟨b0, o0, cap0, c, _, h1, k1, h3, h4, h5, by rw [k2]; simp [Ent.w, hz], hw, h6⟩

theorem snd_ld_d (r : RelAt C n F s a W hdr ow) {x : Operand} {x' : Opd} {t t1 : TypeId} {q off : Nat} {en : Ent} {g : PV} {rest : List PV} {c0 : Nat} {ov : Option (Nat × Nat)} (ho : o.op = .load t x) (hk : knownT P t = true) (hag : aggT P t = false) (hx : opd P t1 x = some x')
    (hu : ev s.env x' = some (.ptr q 0 off)) (hq : find s.heap q = some en) (hz : en.sz = 0) (hf : en.fro = false) (hl : en.l = g :: rest) (hd : decD g = some (c0, ov)) (hlt : off < rest.length) : Snd P C n F s a W id o (.h (dAt c0 ov off)) s.heap := by
  have hux := (opd_ok r hx hu).1
  obtain ⟨b, o', cap, c, w, h1, h2, ⟨tt, h3⟩, h4, h5, h6, h7, h8⟩ := deep_at r hux hq hz hf hl hd hlt
  have hrow : World.row W b c := ⟨tt, _, h3⟩
  have hld := (run_loadVar (P := P) (W := W) hk (off := o' + off) hrow).2 (by rw [hag]; simp) w h7
  have hex : (execOp a.eval o).run P W = .ok (.value w) W := by simp [execOp, ho, Instr.loadAt, Instr.sureAddr, h6, hld]
  refine Snd.pure r (v := w) hex ?_ (fun i hi => ?_)
  · simp only [RepA]; intro _ _; exact (h8 off w hlt h7).1
  · simp only [AV.men] at hi; subst hi
    exact r.idsR q en _ hq ((Ent.refs_D hz hl hd).2 ⟨off, hlt, rfl⟩)

theorem snd_ld_n (r : RelAt C n F s a W hdr ow) {x : Operand} {x' : Opd} {t t1 : TypeId} {q off : Nat} {en : Ent} {g : PV} {rest : List PV} {rf : Option (Nat × Nat)} {p : PV} (ho : o.op = .load t x) (hk : knownT P t = true) (hag : aggT P t = false) (hx : opd P t1 x = some x')
    (hu : ev s.env x' = some (.ptr q 0 off)) (hq : find s.heap q = some en) (hz : en.sz = 0) (hf : en.fro = false) (hl : en.l = g :: rest) (hrf : decR g = some rf) (hp : rest[off]? = some p) :
    (∀ c, rf = some (off, c) → Snd P C n F s a W id o (.h c) s.heap) ∧ ((∀ i c, rf = some (i, c) → off ≠ i) → p.isSt = false → Snd P C n F s a W id o (.v p) s.heap) := by
  have hux := (opd_ok r hx hu).1
  obtain ⟨b, o', cap, c, w, h1, h2, ⟨tt, h3⟩, h4, h5, h6, h7, h8, h9⟩ := nest_at r hux hq hz hf hl hrf hp
  have hrow : World.row W b c := ⟨tt, _, h3⟩
  have hld := (run_loadVar (P := P) (W := W) hk (off := o' + off) hrow).2 (by rw [hag]; simp) w h7
  have hex : (execOp a.eval o).run P W = .ok (.value w) W := by simp [execOp, ho, Instr.loadAt, Instr.sureAddr, h6, hld]
  have hn := h8.2 off p w hp h9
  refine ⟨fun c' hc' => ?_, fun h hs => ?_⟩
  · obtain ⟨e1, _⟩ := hn.1 off c' hc' rfl
    refine Snd.pure r (v := w) hex ?_ (fun i hi => ?_)
    · simp only [RepA]; intro _ _; exact e1
    · simp only [AV.men] at hi; subst hi
      exact r.idsR q en c' hq ((Ent.refs_R hz hl hrf).2 ⟨_, hc'⟩)
  · refine Snd.pure r (v := w) hex ?_ (by simp [AV.men])
    simp only [RepA]
    exact RepV.ofC (hn.2 h) hs

end
end Go.AM
/- Lists laid over lists. -/
set_option linter.all false
namespace Go.AM
open Go
variable [dr : Inhabited Prop]

theorem lay_get {c : List Value} {k : Nat} {news : List Value} (h : k + news.length ≤ c.length) (j : Nat) :
    (lay c k news)[j]? = if j < k then c[j]? else if j < k + news.length then news[j - k]? else c[j]? := by
  simp only [lay, List.getElem?_append, List.length_append, List.length_take, List.getElem?_take, List.getElem?_drop]
  have e1 : min k c.length = k := by omega
  rw [e1]
  by_cases h1 : j < k
  · rw [if_pos (by omega), if_pos h1, if_pos h1, if_pos h1]
  · by_cases h2 : j < k + news.length
    · rw [if_pos h2, if_neg h1, if_neg h1, if_pos h2]
    · rw [if_neg h2, if_neg h1, if_neg h2]; congr 1; omega

theorem drop_lay {c : List Value} {k m : Nat} {news : List Value} (h : k + news.length ≤ c.length) (hm : m ≤ k) : (lay c k news).drop m = lay (c.drop m) (k - m) news := by
  apply List.ext_getElem?
  intro j
  rw [List.getElem?_drop, lay_get h, lay_get (by simp; omega), List.getElem?_drop]
  by_cases h1 : m + j < k
  · rw [if_pos h1, if_pos (show j < k - m by omega)]
  · rw [if_neg h1, if_neg (show ¬ j < k - m by omega)]
    by_cases h2 : m + j < k + news.length
    · rw [if_pos h2, if_pos (show j < k - m + news.length by omega)]; congr 1; omega
    · rw [if_neg h2, if_neg (show ¬ j < k - m + news.length by omega)]

theorem take_lay {c : List Value} {k m : Nat} {news : List Value} (h : k + news.length ≤ c.length) (hm : k + news.length ≤ m) : (lay c k news).take m = lay (c.take m) k news := by
  apply List.ext_getElem?
  intro j
  rw [List.getElem?_take, lay_get h, lay_get (by simp; omega), List.getElem?_take]
  by_cases h0 : j < m
  · simp only [if_pos h0]
  · simp only [if_neg h0, if_neg (show ¬ j < k by omega), if_neg (show ¬ j < k + news.length by omega)]

theorem lay_seg {vs : List Value} {p sz off : Nat} {news : List Value} (h : off + news.length ≤ sz) (hv : p + sz ≤ vs.length) :
    lay vs (p + off) news = vs.take p ++ lay ((vs.drop p).take sz) off news ++ vs.drop (p + sz) := by
  have hl : ((vs.drop p).take sz).length = sz := by simp; omega
  apply List.ext_getElem?
  intro j
  rw [lay_get (by omega)]
  rw [List.getElem?_append, List.getElem?_append, List.length_append, lay_length (by rw [hl]; exact h), hl, lay_get (by rw [hl]; exact h)]
  have e1 : (vs.take p).length = p := by simp; omega
  rw [e1, List.getElem?_take, List.getElem?_take, List.getElem?_drop, List.getElem?_drop]
  by_cases h1 : j < p
  · rw [if_pos (show j < p + off by omega), if_pos (show j < p + sz by omega), if_pos h1, if_pos h1]
  · by_cases h2 : j < p + sz
    · rw [if_pos h2, if_neg h1]
      by_cases h3 : j < p + off
      · rw [if_pos h3, if_pos (show j - p < off by omega), if_pos (show j - p < sz by omega)]; congr 1; omega
      · rw [if_neg h3, if_neg (show ¬ j - p < off by omega)]
        by_cases h4 : j < p + off + news.length
        · rw [if_pos h4, if_pos (show j - p < off + news.length by omega)]; congr 1; omega
        · rw [if_neg h4, if_neg (show ¬ j - p < off + news.length by omega), if_pos (show j - p < sz by omega)]; congr 1; omega
    · rw [if_neg (show ¬ j < p + off by omega), if_neg (show ¬ j < p + off + news.length by omega), if_neg h2]; congr 1; omega

theorem RepL.lay {W : World} {ok : Nat → Prop} {cs ns : List PV} {vs us : List Value} {off : Nat} (r : RepL W ok 1 cs vs) (r' : RepL W ok 1 ns us) : RepL W ok 1 (layP cs off ns) (lay vs off us) := by
  have h1 := r.take off
  have h2 := r.drop (off + ns.length)
  have h3 := r'.length
  simp only [Nat.mul_one] at h1 h2 h3
  unfold layP AM.lay
  rw [h3]
  exact (h1.append r').append h2

theorem layP_length {α : Type} {c : List α} {o : Nat} {news : List α} (h : o + news.length ≤ c.length) : (layP c o news).length = c.length := by
  simp [layP]; omega

theorem layP_mem {cs ns : List PV} {off : Nat} (h1 : ∀ p ∈ cs, p.isSt = false) (h2 : ∀ p ∈ ns, p.isSt = false) : ∀ p ∈ layP cs off ns, p.isSt = false := by
  intro p hp
  simp only [layP, List.mem_append] at hp
  rcases hp with (hp | hp) | hp
  · exact h1 p (List.mem_of_mem_take hp)
  · exact h2 p hp
  · exact h1 p (List.mem_of_mem_drop hp)

/-- A part of an element is written anew. -/
theorem RepC.layEl {W : World} {ok : Nat → Prop} {q p : PV} {vs us : List Value} {off : Nat} (r : RepC W ok q vs) (r' : RepC W ok p us) (h : off + p.cells.length ≤ q.cells.length) :
    RepC W ok (mkEl q (layP q.cells off p.cells)) (lay vs off us) := by
  obtain ⟨h1, h2⟩ := r.cells
  obtain ⟨h3, h4⟩ := r'.cells
  have h5 := h1.lay (off := off) h3
  have h6 := layP_mem (off := off) h2 h4
  unfold mkEl
  by_cases hq : q.isSt = true
  · rw [if_pos hq]; exact .st h6 h5
  · rw [if_neg hq]
    have hl : (layP q.cells off p.cells).length = 1 := by
      rw [layP_length h]; cases q <;> simp at *
    match hx : layP q.cells off p.cells, hl with
    | [x], _ =>
      rw [hx] at h5
      generalize AM.lay vs off us = ws at h5
      cases h5 with
      | cons g1 g2 g3 => cases g3; simpa using g2

/-- The fold that fills. -/
theorem fold_lay (off : Nat) : ∀ (us : List Value) (k : Nat) (cells : Array Value), off + k + us.length ≤ cells.size →
    ((us.zipIdx k).foldl (fun cs (x : Value × Nat) => cs.setIfInBounds (off + x.2) x.1) cells).toList = lay cells.toList (off + k) us
  | [], k, cells, _ => by simp [lay_nil]
  | v :: us, k, cells, h => by
    simp only [List.length_cons] at h
    rw [List.zipIdx_cons, List.foldl_cons, fold_lay off us (k + 1) _ (by simp; omega), lay_cons (by simp; omega)]
    simp [Nat.add_assoc]

theorem fold_lay' (off : Nat) (us : Array Value) (cells : Array Value) (h : off + us.size ≤ cells.size) :
    (us.zipIdx.foldl (fun cs (x : Value × Nat) => cs.setIfInBounds (off + x.2) x.1) cells).toList = lay cells.toList off us.toList := by
  have := fold_lay off us.toList 0 cells (by simpa using h)
  rw [← Array.foldl_toList]
  simpa using this

end Go.AM
/- The operations that write memory or make rows. -/
set_option linter.all false
namespace Go.AM
open Go
variable [dr : Inhabited Prop]

section
variable {P : Program} {C : Cx} {n : Nat} {F : Nat → Prop} {s : St} {a : Act} {W : World} {hdr : Nat → Value} {ow : Nat → Option Nat} {id : Nat} {o : Oper}

/-- A row that is owned becomes another one, in the same block. -/
theorem RelAt.turn (r : RelAt C n F s a W hdr ow) {k : Nat} {e : Ent} (he : find s.heap k = some e) (hid : ¬ F id) {e' : Ent} {x' : Value} {W' : World}
    (h2 : ∀ j, ow k ≠ some j → W'.heap[j]? = W.heap[j]?) (h3 : W'.heap.size = W.heap.size) (h4 : W'.os = W.os) (h5 : W'.tape = W.tape) (h6 : OutLe W W')
    (hE : RepE3 W' (OK C W s.heap ow) e' x' (ow k)) (hz' : e'.sz ≠ 0) :
    RelAt C n (fun i => F i ∨ i = id) { s with heap := (id, e') :: strike s.heap k } a W' (upd hdr id x') (upd ow id (ow k)) := by
  have hn := r.fresh hid
  have hki : k ≠ id := by rintro rfl; rw [hn] at he; cases he
  have hf : ∀ j y, find ((id, e') :: strike s.heap k) j = some y → (j = id ∧ y = e') ∨ (j ≠ id ∧ j ≠ k ∧ find s.heap j = some y) := by
    intro j y h
    rw [find_cons] at h
    by_cases hj : j = id
    · rw [if_pos hj] at h; cases h; exact .inl ⟨hj, rfl⟩
    · rw [if_neg hj, find_strike] at h
      by_cases hj2 : j = k
      · rw [if_pos hj2] at h; cases h
      · rw [if_neg hj2] at h; exact .inr ⟨hj, hj2, h⟩
  have hok : ∀ b, OK C W s.heap ow b → OK C W' ((id, e') :: strike s.heap k) (upd ow id (ow k)) b ∧ W'.heap[b]? = W.heap[b]? := by
    rintro b ⟨g1, g2⟩
    refine ⟨⟨by rw [h3]; exact g1, ?_⟩, h2 b fun hb => g2 ⟨k, e, he, hb⟩⟩
    rintro ⟨j, y, hj, ho⟩
    rcases hf j y hj with ⟨rfl, rfl⟩ | ⟨hne, hnk, hj⟩
    · simp only [upd, if_pos] at ho; exact g2 ⟨k, e, he, ho⟩
    · rw [upd, if_neg hne] at ho; exact g2 ⟨j, y, hj, ho⟩
  refine r.rebuild (m := s.nx) ⟨?_, ?_, ?_, ?_, ?_, h4.trans r.mem.os, h5.trans r.mem.tape, h6.trans r.mem.output⟩ hok ?_ ?_ (fun i h => .inl h) ?_
  · intro j y hj
    rcases hf j y hj with ⟨rfl, rfl⟩ | ⟨hne, hnk, hj⟩
    · simp only [upd, if_pos]; exact .inl ⟨fun h => absurd h hz', hE.mono (fun b hb => ⟨(hok b hb).1, rfl⟩) (fun _ _ => rfl)⟩
    · rw [upd, upd, if_neg hne, if_neg hne]
      refine (r.mem.ent j y hj).mono hok (fun b hb => h2 b fun hk => ?_) (fun c hc => by rw [upd, if_neg (fun h => hid (by rw [← h]; exact r.idsR j y c hj hc))])
      exact hnk (r.mem.inj j k y e b hj he hb hk)
  · intro j j' y y' b hj hj' hb hb'
    rcases hf j y hj with ⟨rfl, rfl⟩ | ⟨hne, hnk, hj⟩ <;> rcases hf j' y' hj' with ⟨rfl, rfl⟩ | ⟨hne', hnk', hj'⟩
    · rfl
    · simp only [upd, if_pos] at hb; rw [upd, if_neg hne'] at hb'; exact (hnk' (r.mem.inj j' k y' e b hj' he hb' hb)).elim
    · simp only [upd, if_pos] at hb'; rw [upd, if_neg hne] at hb; exact (hnk (r.mem.inj j k y e b ‹find s.heap j = some y› he hb hb')).elim
    · rw [upd, if_neg hne] at hb; rw [upd, if_neg hne'] at hb'; exact r.mem.inj j j' y y' b hj hj' hb hb'
  · intro j y b hj hb
    rw [h3]
    rcases hf j y hj with ⟨rfl, rfl⟩ | ⟨hne, hnk, hj⟩
    · simp only [upd, if_pos] at hb; exact r.mem.lt k e b he hb
    · rw [upd, if_neg hne] at hb; exact r.mem.lt j y b hj hb
  · rw [h3]; exact r.mem.size
  · intro b hb ho
    rw [h2 b ?_]
    · exact r.mem.frame b hb ho
    · intro hk
      rcases (r.mem.lt k e b he hk).2 with h | h
      · exact ho h
      · omega
  · intro j hj y hy
    rcases hf j y hy with ⟨rfl, rfl⟩ | ⟨hne, hnk, hy⟩
    · exact (hid hj).elim
    · exact ⟨y, hy, by rw [upd, if_neg hne], rfl⟩
  · intro j y hy
    rcases hf j y hy with ⟨rfl, rfl⟩ | ⟨hne, hnk, hy⟩
    · exact .inr rfl
    · exact .inl (r.idsH j y hy)
  · intro j y c hy hc
    rcases hf j y hy with ⟨rfl, rfl⟩ | ⟨hne, hnk, hy⟩
    · exact (Ent.refs_none hz' hc).elim
    · exact .inl (r.idsR j y c hy hc)

/-- A row as it lies, its elements shared. -/
def RowAt (W : World) (ok : Nat → Prop) (sz : Nat) (l : List PV) (v : Value) : Prop :=
  (l = [] ∧ ∃ ao, v = .slice ao 0 0) ∨ ∃ b off cap c, v = .slice (some ⟨b, off, none⟩) l.length cap ∧ b < W.heap.size ∧ World.row W b c ∧ off + cap * sz ≤ c.length ∧ l.length ≤ cap ∧
    RepL W ok sz l ((c.drop off).take (l.length * sz))

theorem RepC.rowAt {ok : Nat → Prop} {sz : Nat} {l : List PV} {v : Value} (h : ∀ b, ok b → b < W.heap.size) (r : RepC W ok (.sl sz l) [v]) : RowAt W ok sz l v := by
  rcases r.slInv with ⟨h1, ao, h2⟩ | ⟨b, off, cap, c, h1, h2, h3, h4, h5, h6⟩
  · simp at h2; exact .inl ⟨h1, ao, h2⟩
  · simp at h1; exact .inr ⟨b, off, cap, c, h1, h b h2, h3, h4, h5, h6⟩

theorem rdRow_at (r : RelAt C n F s a W hdr ow) {x : AV} {v : Value} {sz : Nat} {l : List PV} (hx : RepA W (OK C W s.heap ow) hdr s.heap x v) (h : rdRow s.heap x = some (sz, l)) : RowAt W (OK C W s.heap ow) sz l v := by
  cases x with
  | v p =>
    cases p with
    | sl sz' l' =>
      simp only [rdRow, Option.some.injEq, Prod.mk.injEq] at h
      obtain ⟨rfl, rfl⟩ := h
      simp only [RepA] at hx
      exact hx.slInv.rowAt fun b hb => hb.1.2
    | _ => simp [rdRow] at h
  | h id =>
    obtain ⟨e, he, hz, rfl, rfl⟩ := rdRow_h h
    simp only [RepA] at hx
    rw [hx e he]
    rcases (r.mem.ent id e he).plain hz with ⟨_, g2, _⟩ | ⟨g1, _, ao, g2⟩ | ⟨_, b, off, cap, c, g1, g2, ⟨t, g3⟩, g4, g5, g6⟩
    · exact g2.rowAt fun b hb => hb.1.2
    · exact .inl ⟨g1, ao, g2⟩
    · exact .inr ⟨b, off, cap, c, g2, (r.mem.lt id e b he g1).1, ⟨t, _, g3⟩, g4, g5, g6⟩
  | _ => simp [rdRow] at h

theorem RepL.ones {ok : Nat → Prop} {sz : Nat} {l : List PV} {vs : List Value} (r : RepL W ok sz l vs) : ∀ v ∈ vs, v.oneCell' = true := by
  induction l generalizing vs with
  | nil => cases r; simp
  | cons p l ih =>
    cases r with
    | cons h1 r0 r =>
      intro v hv
      rcases List.mem_append.1 hv with hv | hv
      · obtain ⟨g1, g2⟩ := r0.cells
        exact g1.oneCell g2 v hv
      · exact ih r v hv

/-- What an append takes in. -/
theorem RowAt.src {ok : Nat → Prop} {sz : Nat} {l : List PV} {v : Value} {tx e' : TypeId} (h : RowAt W ok sz l v) (hk : P.underlying tx = some (.slice e')) :
    ∃ news, Src P sz tx v l.length news W ∧ RepL W ok sz l news := by
  rcases h with ⟨rfl, ao, rfl⟩ | ⟨b, off, cap, c, rfl, h1, h2, h3, h4, h5⟩
  · refine ⟨[], ?_, .nil⟩
    cases ao with
    | none => exact Src.ofNil W hk 0
    | some ad => exact Src.ofSlice W hk ad 0 0 [] (by simp) (by simp) (by simp)
  · have hlen := h5.length
    refine ⟨_, Src.ofSlice W hk ⟨b, off, none⟩ l.length cap _ hlen ?_ h5.ones, h5⟩
    intro j u hj
    rw [add_lit, cell_row h2]
    rw [List.getElem?_take] at hj
    split at hj
    · rw [List.getElem?_drop] at hj; exact hj
    · cases hj

theorem growBy_le (need : Nat) : ∀ (k c : Nat), c < need → Builtin.growBy need k c ≤ 2 * need + 1000
  | 0, c, h => by simp [Builtin.growBy]; omega
  | k + 1, c, h => by
    unfold Builtin.growBy
    rw [if_neg (by omega)]
    by_cases h2 : c + (c + 768) / 4 < need
    · exact growBy_le need k _ h2
    · have : Builtin.growBy need k (c + (c + 768) / 4) = c + (c + 768) / 4 := by
        cases k with
        | zero => rfl
        | succ k => unfold Builtin.growBy; rw [if_pos (by omega)]
      rw [this]; omega

theorem nextcap_le {need cap : Nat} (h : cap < need) : Builtin.nextslicecap need cap ≤ 2 * need + 1000 := by
  unfold Builtin.nextslicecap
  split
  · omega
  · split
    · omega
    · exact growBy_le need 4 cap h

theorem grownCap_ge (w : World) (need old : Nat) (e : TypeId) : need ≤ grownCap w need old e := by
  show need ≤ need + _ % _
  exact Nat.le_add_right _ _

theorem RelAt.getOwn (r : RelAt C n F s a W hdr ow) {k : Nat} {e : Ent} (he : find s.heap k = some e) (hf : e.fro = false) (hz : e.sz ≠ 0) :
    (e.l = [] ∧ ow k = none ∧ ∃ ao, hdr k = .slice ao 0 0) ∨ ∃ b off cap c, ow k = some b ∧ hdr k = .slice (some ⟨b, off, none⟩) e.l.length cap ∧ World.rowO W b c ∧ off + cap * e.sz ≤ c.length ∧ e.l.length ≤ cap ∧
      RepL W (OK C W s.heap ow) e.sz e.l ((c.drop off).take (e.l.length * e.sz)) := by
  rcases (r.mem.ent k e he).plain hz with ⟨h1, _⟩ | h | ⟨_, h⟩
  · rw [hf] at h1; cases h1
  · exact .inl h
  · exact .inr h

theorem rowO_row {b : Nat} {c : List Value} (h : World.rowO W b c) : World.row W b c := by obtain ⟨t, h⟩ := h; exact ⟨t, _, h⟩

theorem rowO_frozen {b : Nat} {c : List Value} (h : World.rowO W b c) (j : Nat) : W.frozen? ⟨b, j, none⟩ = false := by
  obtain ⟨t, h⟩ := h; exact frozen_of_row W b j c.toArray t h

theorem zeroCells_size (zero : Array Value) (m : Nat) : (Builtin.zeroCells zero m).size = m * zero.size := by simp [Builtin.zeroCells]

theorem OK.strike {H : Heap} {k b : Nat} (h : OK C W H ow b) : OK C W (strike H k) ow b := by
  obtain ⟨g1, g2⟩ := h
  refine ⟨g1, ?_⟩
  rintro ⟨j, q, hj, hq⟩
  rw [find_strike] at hj
  split at hj
  · cases hj
  · exact g2 ⟨j, q, hj, hq⟩

theorem snd_app (r : RelAt C n F s a W hdr ow) (hid : ¬ F id) {as : Array Operand} {ts : Array TypeId} {x y : Operand} {x' y' : Opd} {t tx e e2 t1 t2 : TypeId} {i : TypeInfo} {k : Nat} {en : Ent} {u : AV} {ys : List PV}
    (ho : o.op = .call { callee := .builtin .append, args := as, argTypes := ts }) (ha : as.toList = [x, y]) (hts : ts.toList = [t, tx]) (ht : P.underlying t = some (.slice e)) (htx : P.underlying tx = some (.slice e2))
    (hi : P.info? e = some i) (hz : (i.zero.map fun z => z.cells.size) = some i.size) (hbn : i.bytes ≠ 0) (hx : opd P t1 x = some x') (hy : opd P t2 y = some y') (hu : ev s.env x' = some (.h k)) (hv : ev s.env y' = some u) (he : find s.heap k = some en) (hr : rdRow s.heap u = some (i.size, ys))
    (hf : en.fro = false) (hsz : en.sz = i.size) (hb : (en.l.length + ys.length + 1000) * i.bytes ≤ 70368744177664) (hz0 : i.size ≠ 0) :
    Snd P C n F s a W id o (.h id) ((id, ⟨false, i.size, en.l ++ ys⟩) :: AM.strike s.heap k) := by
  obtain rfl : as = #[x, y] := Array.toList_inj.1 (by simpa using ha)
  obtain rfl : ts = #[t, tx] := Array.toList_inj.1 (by simpa using hts)
  obtain ⟨z, hz, hzc⟩ := Option.map_eq_some_iff.1 hz
  have hb2 : en.l.length + ys.length ≤ 70368744177664 := by
    have := Nat.le_mul_of_pos_right (en.l.length + ys.length + 1000) (Nat.pos_of_ne_zero hbn)
    omega
  have hux := (opd_ok r hx hu).1
  simp only [RepA] at hux
  have hux := hux en he
  have hvy := (opd_ok r hy hv).1
  obtain ⟨news, hs, hn⟩ := (rdRow_at r hvy hr).src (P := P) htx
  have hnl := hn.length
  have hexec : ∀ v W', (Builtin.append_ #[t, tx] o.type #[a.eval x, a.eval y]).run P W = .ok v W' → (execOp a.eval o).run P W = .ok (.value v) W' := by
    intro v W' h
    simp [execOp, ho, resolve, invoke, builtin, h]
  have hmen : ∀ j, (AV.h id).men j → F j ∨ j = id := fun j hj => .inr (by simpa [AV.men] using hj.symm)
  have hgrow : ∀ (base : Option Addr) (cap : Nat) (olds : List Value), a.eval x = .slice base en.l.length cap → (Builtin.firstCells i.size en.l.length (.slice base en.l.length cap)).run P W.drew = .ok olds.toArray W.drew →
      RepL W (OK C W s.heap ow) i.size en.l olds → cap < en.l.length + ys.length → Snd P C n F s a W id o (.h id) ((id, ⟨false, i.size, en.l ++ ys⟩) :: AM.strike s.heap k) := by
    intro base cap olds hax hold hro hlt
    have hnc : Builtin.nextslicecap (en.l.length + ys.length) cap * i.bytes ≤ 281474976710656 := by
      have h1 := Nat.mul_le_mul_right i.bytes (nextcap_le hlt)
      have h2 : (2 * (en.l.length + ys.length) + 1000) * i.bytes ≤ 2 * ((en.l.length + ys.length + 1000) * i.bytes) := by
        rw [← Nat.mul_assoc]; exact Nat.mul_le_mul_right _ (by omega)
      omega
    have hrun := run_append_grow_src (P := P) W t tx o.type e i z ht hi hz base en.l.length cap olds hold (a.eval y) ys.length news hs hlt (by omega) hnc
    rw [← hax] at hrun
    have hge := grownCap_ge W (en.l.length + ys.length) cap e
    generalize grownCap W (en.l.length + ys.length) cap e = gc at hge hrun
    have r1 := (r.drop k).same (W' := W.drew) ⟨rfl, rfl, rfl, rfl, fun _ => Nat.le_succ _⟩
    have hln : (olds ++ news).length = (en.l.length + ys.length) * i.size := by
      rw [List.length_append, hro.length, hnl, Nat.add_mul]
    have hrep : RepL W.drew (OK C W.drew (AM.strike s.heap k) ow) i.size (en.l ++ ys) (olds ++ news) :=
      RepL.mono (W := W) (W' := W.drew) (ok := OK C W s.heap ow) (ok' := OK C W.drew (AM.strike s.heap k) ow) (fun b hb => ⟨OK.strike (W := W) hb, rfl⟩) (hro.append hn)
    have hlen2 : ((Builtin.zeroCells z.cells (gc - (en.l.length + ys.length))).toList).length = (gc - (en.l.length + ys.length)) * i.size := by
      rw [Array.length_toList, zeroCells_size, hzc]
    have r2 := r1.alloc (id := id) (sz := i.size) (cap := gc) (l := en.l ++ ys) (c := (olds ++ news) ++ (Builtin.zeroCells z.cells (gc - (en.l.length + ys.length))).toList) hid e hz0
      (by rw [List.length_append, hln, hlen2, ← Nat.add_mul]; exact Nat.mul_le_mul_right _ (by omega)) (by rw [List.length_append]; exact hge) (by rw [List.length_append, ← hln, List.take_left]; exact hrep)
    have e1 : ((olds ++ news) ++ (Builtin.zeroCells z.cells (gc - (en.l.length + ys.length))).toList).toArray = (olds ++ news).toArray ++ Builtin.zeroCells z.cells (gc - (en.l.length + ys.length)) := by
      apply Array.ext'; simp
    rw [e1] at r2
    refine ⟨_, _, _, _, .inl (hexec _ _ hrun), r2, ?_, hmen⟩
    simp only [RepA]
    intro e' _
    simp [upd]
  rcases r.getOwn he hf (by rw [hsz]; exact hz0) with ⟨g1, g2, ao, g3⟩ | ⟨b, off, cap, c, g1, g2, g3, g4, g5, g6⟩
  · rw [g3] at hux
    by_cases hy0 : ys = []
    · subst hy0
      have hrun := run_append_nothing (P := P) W t tx o.type e i ht hi ao 0 0 (Nat.le_refl _) (a.eval y) (by
        have hn0 : news = [] := by cases hn; rfl
        rw [← hn0]; exact hs)
      rw [← hux] at hrun
      refine ⟨_, _, _, _, .inl (hexec _ _ hrun), r.turn (e' := ⟨false, i.size, en.l ++ []⟩) (x' := .slice ao 0 0) he hid (fun _ _ => rfl) rfl rfl rfl (OutLe.refl _) ?_ hz0, ?_, hmen⟩
      · refine .inr (.inl ⟨by simp [g1], g2, ao, rfl⟩)
      · simp only [RepA]; intro e' _; simp [upd, hux]
    · have : 0 < ys.length := List.length_pos_iff.2 hy0
      refine hgrow ao 0 [] (by rw [hux, g1]; rfl) ?_ (by rw [g1]; exact .nil) (by omega)
      rw [g1]
      cases ao with
      | none => exact run_firstCells_none W.drew _ _ _ _
      | some ad => exact run_firstCells_some W.drew _ 0 ad _ _ [] (by simp) (by simp)
  · rw [g2] at hux
    rw [hsz] at g4 g6
    have hg3 := rowO_row g3
    have hol : ((c.drop off).take (en.l.length * i.size)).length = en.l.length * i.size := g6.length
    have hcap := Nat.mul_le_mul_right i.size g5
    by_cases hroom : en.l.length + ys.length ≤ cap
    · have hroomM := Nat.mul_le_mul_right i.size hroom
      rw [Nat.add_mul] at hroomM
      have hrun := run_append_room_src (P := P) W t tx o.type e i ht hi b off en.l.length cap (a.eval y) ys.length news hs hroom
        (by
          intro j hj
          rw [cell_row hg3, List.getElem?_eq_getElem (by omega)]; rfl)
        (by intro j hj; exact rowO_frozen g3 _)
      rw [← hux] at hrun
      obtain ⟨k1, k2, k3, k4, k5, k6⟩ := setCells_row b news (off + en.l.length * i.size) c W g3 (by omega)
      refine ⟨_, _, _, _, .inl (hexec _ _ hrun), r.turn (e' := ⟨false, i.size, en.l ++ ys⟩) (x' := .slice (some ⟨b, off, none⟩) (en.l.length + ys.length) cap) he hid ?_ k3 k4 k5 k6 ?_ hz0, ?_, hmen⟩
      · intro j hj
        exact k2 j (by rintro rfl; exact hj g1)
      · refine .inr (.inr ⟨rfl, b, off, cap, _, g1, by rw [List.length_append], k1, by rw [lay_length (by omega)]; exact g4, by simpa using hroom, ?_⟩)
        have e1 : (((lay c (off + en.l.length * i.size) news).drop off).take ((en.l ++ ys).length * i.size)) = (c.drop off).take (en.l.length * i.size) ++ news := by
          rw [List.length_append, drop_lay (by omega) (by omega), Nat.add_sub_cancel_left, take_lay (by simp; omega) (by rw [Nat.add_mul]; omega)]
          unfold lay
          rw [List.take_take, Nat.min_eq_left (by rw [Nat.add_mul]; omega)]
          have : List.drop (en.l.length * i.size + news.length) (List.take ((en.l.length + ys.length) * i.size) (List.drop off c)) = [] := by
            apply List.drop_eq_nil_of_le
            rw [List.length_take, hnl, Nat.add_mul]; omega
          rw [this, List.append_nil]
        rw [e1]
        refine (g6.append hn).mono fun j hj => ⟨hj, k2 j ?_⟩
        rintro rfl
        exact hj.2 ⟨k, en, he, g1⟩
      · simp only [RepA]; intro e' _; simp [upd]
    · refine hgrow (some ⟨b, off, none⟩) cap _ hux ?_ g6 (by omega)
      refine run_firstCells_some W.drew _ _ _ _ _ _ hol ?_
      intro j v hj
      rw [World.cell?_drew, add_lit, cell_row hg3]
      rw [List.getElem?_take] at hj
      split at hj
      · rw [List.getElem?_drop] at hj; exact hj
      · cases hj

/-- A copy of a row: it is appended to nothing. -/
theorem snd_cln (r : RelAt C n F s a W hdr ow) (hid : ¬ F id) {as : Array Operand} {ts : Array TypeId} {x y : Operand} {y' : Opd} {t tx e e2 t2 : TypeId} {i : TypeInfo} {u : AV} {ys : List PV}
    (ho : o.op = .call { callee := .builtin .append, args := as, argTypes := ts }) (ha : as.toList = [x, y]) (hts : ts.toList = [t, tx]) (ht : P.underlying t = some (.slice e)) (htx : P.underlying tx = some (.slice e2))
    (hi : P.info? e = some i) (hz : (i.zero.map fun z => z.cells.size) = some i.size) (hbn : i.bytes ≠ 0) (hn : isNilC x = true) (hy : opd P t2 y = some y') (hv : ev s.env y' = some u) (hr : rdRow s.heap u = some (i.size, ys))
    (hb : (ys.length + 1000) * i.bytes ≤ 70368744177664) (hz0 : i.size ≠ 0) :
    Snd P C n F s a W id o (.h id) ((id, ⟨false, i.size, ys⟩) :: s.heap) := by
  obtain rfl : as = #[x, y] := Array.toList_inj.1 (by simpa using ha)
  obtain rfl : ts = #[t, tx] := Array.toList_inj.1 (by simpa using hts)
  obtain ⟨z, hz, hzc⟩ := Option.map_eq_some_iff.1 hz
  have hb2 : ys.length ≤ 70368744177664 := by
    have := Nat.le_mul_of_pos_right (ys.length + 1000) (Nat.pos_of_ne_zero hbn)
    omega
  have hax : a.eval x = .slice none 0 0 := by
    unfold isNilC at hn
    split at hn
    · rename_i v
      unfold isNilSlice at hn
      split at hn
      · rfl
      · cases hn
    · cases hn
  have hvy := (opd_ok r hy hv).1
  obtain ⟨news, hs, hn'⟩ := (rdRow_at r hvy hr).src (P := P) htx
  have hnl := hn'.length
  have hexec : ∀ v W', (Builtin.append_ #[t, tx] o.type #[a.eval x, a.eval y]).run P W = .ok v W' → (execOp a.eval o).run P W = .ok (.value v) W' := by
    intro v W' h
    simp [execOp, ho, resolve, invoke, builtin, h]
  have hmen : ∀ j, (AV.h id).men j → F j ∨ j = id := fun j hj => .inr (by simpa [AV.men] using hj.symm)
  by_cases hy0 : ys = []
  · subst hy0
    have hn0 : news = [] := by cases hn'; rfl
    subst hn0
    have hrun := run_append_nothing (P := P) W t tx o.type e i ht hi none 0 0 (Nat.le_refl _) (a.eval y) hs
    rw [← hax] at hrun
    refine ⟨_, _, _, _, .inl (hexec _ _ hrun), r.allocNil hid i.size none, ?_, hmen⟩
    simp only [RepA]; intro e' _; simp [upd, hax]
  · have hp : 0 < ys.length := List.length_pos_iff.2 hy0
    have hnc : Builtin.nextslicecap (0 + ys.length) 0 * i.bytes ≤ 281474976710656 := by
      have h1 := Nat.mul_le_mul_right i.bytes (nextcap_le (need := 0 + ys.length) (cap := 0) (by omega))
      have h2 : (2 * (0 + ys.length) + 1000) * i.bytes ≤ 2 * ((ys.length + 1000) * i.bytes) := by
        rw [← Nat.mul_assoc]; exact Nat.mul_le_mul_right _ (by omega)
      omega
    have hrun := run_append_grow_src (P := P) W t tx o.type e i z ht hi hz none 0 0 [] (run_firstCells_none W.drew _ _ _ _) (a.eval y) ys.length news hs (by omega) (by omega) hnc
    rw [← hax] at hrun
    have hge := grownCap_ge W (0 + ys.length) 0 e
    generalize grownCap W (0 + ys.length) 0 e = gc at hge hrun
    simp only [Nat.zero_add, List.nil_append] at hrun hge
    have r1 := r.same (W' := W.drew) ⟨rfl, rfl, rfl, rfl, fun _ => Nat.le_succ _⟩
    have hlen2 : ((Builtin.zeroCells z.cells (gc - ys.length)).toList).length = (gc - ys.length) * i.size := by
      rw [Array.length_toList, zeroCells_size, hzc]
    have hrep : RepL W.drew (OK C W.drew s.heap ow) i.size ys news :=
      RepL.mono (W := W) (W' := W.drew) (ok := OK C W s.heap ow) (ok' := OK C W.drew s.heap ow) (fun b hb => ⟨hb, rfl⟩) hn'
    have r2 := r1.alloc (id := id) (sz := i.size) (cap := gc) (l := ys) (c := news ++ (Builtin.zeroCells z.cells (gc - ys.length)).toList) hid e hz0
      (by rw [List.length_append, hnl, hlen2, ← Nat.add_mul]; exact Nat.mul_le_mul_right _ (by omega)) hge (by rw [← hnl, List.take_left]; exact hrep)
    have e1 : (news ++ (Builtin.zeroCells z.cells (gc - ys.length)).toList).toArray = news.toArray ++ Builtin.zeroCells z.cells (gc - ys.length) := by
      apply Array.ext'; simp
    rw [e1] at r2
    refine ⟨_, _, _, _, .inl (hexec _ _ hrun), r2, ?_, hmen⟩
    simp only [RepA]
    intro e' _
    simp [upd]


theorem snd_appN (r : RelAt C n F s a W hdr ow) (hid : ¬ F id) {as : Array Operand} {ts : Array TypeId} {x y : Operand} {y' : Opd} {t tx e e2 t2 : TypeId} {i : TypeInfo} {u : AV} {ys : List PV}
    (ho : o.op = .call { callee := .builtin .append, args := as, argTypes := ts }) (ha : as.toList = [x, y]) (hts : ts.toList = [t, tx]) (ht : P.underlying t = some (.slice e)) (htx : P.underlying tx = some (.slice e2))
    (hi : P.info? e = some i) (hz : (i.zero.map fun z => z.cells.size) = some i.size) (hbn : i.bytes ≠ 0) {x' : Opd} {t1 : TypeId} (hx : opd P t1 x = some x') (hxn : ev s.env x' = some (.v .nl)) (hy : opd P t2 y = some y') (hv : ev s.env y' = some u) (hr : rdRow s.heap u = some (i.size, ys))
    (hb : (ys.length + 1000) * i.bytes ≤ 70368744177664) (hz0 : i.size ≠ 0) :
    Snd P C n F s a W id o (.h id) ((id, ⟨false, i.size, ys⟩) :: s.heap) := by
  obtain rfl : as = #[x, y] := Array.toList_inj.1 (by simpa using ha)
  obtain rfl : ts = #[t, tx] := Array.toList_inj.1 (by simpa using hts)
  obtain ⟨z, hz, hzc⟩ := Option.map_eq_some_iff.1 hz
  have hb2 : ys.length ≤ 70368744177664 := by
    have := Nat.le_mul_of_pos_right (ys.length + 1000) (Nat.pos_of_ne_zero hbn)
    omega
  have hax : a.eval x = .slice none 0 0 := by
    have hux := (opd_ok r hx hxn).1
    simp only [RepA] at hux
    unfold RepV at hux
    simp only [PV.isSt, Bool.false_eq_true, if_false] at hux
    generalize hvv : [a.eval x] = vv at hux
    cases hux
    simp only [List.cons.injEq, and_true] at hvv
    exact hvv
  have hvy := (opd_ok r hy hv).1
  obtain ⟨news, hs, hn'⟩ := (rdRow_at r hvy hr).src (P := P) htx
  have hnl := hn'.length
  have hexec : ∀ v W', (Builtin.append_ #[t, tx] o.type #[a.eval x, a.eval y]).run P W = .ok v W' → (execOp a.eval o).run P W = .ok (.value v) W' := by
    intro v W' h
    simp [execOp, ho, resolve, invoke, builtin, h]
  have hmen : ∀ j, (AV.h id).men j → F j ∨ j = id := fun j hj => .inr (by simpa [AV.men] using hj.symm)
  by_cases hy0 : ys = []
  · subst hy0
    have hn0 : news = [] := by cases hn'; rfl
    subst hn0
    have hrun := run_append_nothing (P := P) W t tx o.type e i ht hi none 0 0 (Nat.le_refl _) (a.eval y) hs
    rw [← hax] at hrun
    refine ⟨_, _, _, _, .inl (hexec _ _ hrun), r.allocNil hid i.size none, ?_, hmen⟩
    simp only [RepA]; intro e' _; simp [upd, hax]
  · have hp : 0 < ys.length := List.length_pos_iff.2 hy0
    have hnc : Builtin.nextslicecap (0 + ys.length) 0 * i.bytes ≤ 281474976710656 := by
      have h1 := Nat.mul_le_mul_right i.bytes (nextcap_le (need := 0 + ys.length) (cap := 0) (by omega))
      have h2 : (2 * (0 + ys.length) + 1000) * i.bytes ≤ 2 * ((ys.length + 1000) * i.bytes) := by
        rw [← Nat.mul_assoc]; exact Nat.mul_le_mul_right _ (by omega)
      omega
    have hrun := run_append_grow_src (P := P) W t tx o.type e i z ht hi hz none 0 0 [] (run_firstCells_none W.drew _ _ _ _) (a.eval y) ys.length news hs (by omega) (by omega) hnc
    rw [← hax] at hrun
    have hge := grownCap_ge W (0 + ys.length) 0 e
    generalize grownCap W (0 + ys.length) 0 e = gc at hge hrun
    simp only [Nat.zero_add, List.nil_append] at hrun hge
    have r1 := r.same (W' := W.drew) ⟨rfl, rfl, rfl, rfl, fun _ => Nat.le_succ _⟩
    have hlen2 : ((Builtin.zeroCells z.cells (gc - ys.length)).toList).length = (gc - ys.length) * i.size := by
      rw [Array.length_toList, zeroCells_size, hzc]
    have hrep : RepL W.drew (OK C W.drew s.heap ow) i.size ys news :=
      RepL.mono (W := W) (W' := W.drew) (ok := OK C W s.heap ow) (ok' := OK C W.drew s.heap ow) (fun b hb => ⟨hb, rfl⟩) hn'
    have r2 := r1.alloc (id := id) (sz := i.size) (cap := gc) (l := ys) (c := news ++ (Builtin.zeroCells z.cells (gc - ys.length)).toList) hid e hz0
      (by rw [List.length_append, hnl, hlen2, ← Nat.add_mul]; exact Nat.mul_le_mul_right _ (by omega)) hge (by rw [← hnl, List.take_left]; exact hrep)
    have e1 : (news ++ (Builtin.zeroCells z.cells (gc - ys.length)).toList).toArray = news.toArray ++ Builtin.zeroCells z.cells (gc - ys.length) := by
      apply Array.ext'; simp
    rw [e1] at r2
    refine ⟨_, _, _, _, .inl (hexec _ _ hrun), r2, ?_, hmen⟩
    simp only [RepA]
    intro e' _
    simp [upd]

theorem strike_none {α : Type} {l : List (Nat × α)} {t : Nat} (h : find l t = none) : strike l t = l := by
  induction l with
  | nil => rfl
  | cons p l ih =>
    obtain ⟨k, v⟩ := p
    rw [find_cons] at h
    split at h
    · cases h
    · rename_i hne
      have e : (!((k, v).1 == t)) = true := by simp; exact fun h => hne h.symm
      unfold strike at ih ⊢
      rw [List.filter_cons, if_pos e, ih h]

/-- A new row that is written no more is a value. -/
theorem Snd.frozen {sz : Nat} {l : List PV} {H1 : Heap} (h : Snd P C n F s a W id o (.h id) ((id, ⟨false, sz, l⟩) :: H1)) (hn : find H1 id = none) (hz : sz ≠ 0) : Snd P C n F s a W id o (.v (.sl sz l)) H1 := by
  obtain ⟨v, W', hdr', ow', h1, r2, h3, _⟩ := h
  have he : find ((id, (⟨false, sz, l⟩ : Ent)) :: H1) id = some ⟨false, sz, l⟩ := by rw [find_cons, if_pos rfl]
  simp only [RepA] at h3
  have hv := h3 _ he
  have r3 := r2.freeze he hz
  have hs : setIn ((id, (⟨false, sz, l⟩ : Ent)) :: H1) id ⟨true, sz, l⟩ = (id, ⟨true, sz, l⟩) :: setIn H1 id ⟨true, sz, l⟩ := by unfold setIn; simp
  have r4 := r3.drop id
  have hst : strike (setIn ((id, (⟨false, sz, l⟩ : Ent)) :: H1) id ⟨true, sz, l⟩) id = H1 := by
    have e1 : find (setIn H1 id (⟨true, sz, l⟩ : Ent)) id = none := by rw [find_setIn, if_pos rfl, hn]; rfl
    have e2 : setIn H1 id (⟨true, sz, l⟩ : Ent) = H1 := by
      clear e1 r4 hs r3 hv h3 he r2
      induction H1 with
      | nil => rfl
      | cons p l' ih =>
        obtain ⟨k, x⟩ := p
        rw [find_cons] at hn
        split at hn
        · cases hn
        · rename_i hne
          have e : setIn ((k, x) :: l') id (⟨true, sz, l⟩ : Ent) = (if k = id then (id, ⟨true, sz, l⟩) else (k, x)) :: setIn l' id ⟨true, sz, l⟩ := rfl
          rw [e, if_neg (fun h => hne h.symm), ih hn]
    rw [hs, strike_cons, if_pos rfl, e2, strike_none hn]
  have hent := (r3.mem.ent id ⟨true, sz, l⟩ (by simp only [hs, find_cons, if_pos])).plain hz
  have hok : ∀ b, OK C W' (setIn ((id, (⟨false, sz, l⟩ : Ent)) :: H1) id ⟨true, sz, l⟩) (upd ow' id none) b → OK C W' H1 (upd ow' id none) b := by
    rintro b ⟨g1, g2⟩
    refine ⟨g1, ?_⟩
    rintro ⟨j, x, hj, ho⟩
    have hji : j ≠ id := by rintro rfl; rw [hn] at hj; cases hj
    refine g2 ⟨j, x, ?_, ho⟩
    rw [find_setIn, if_neg hji, find_cons, if_neg hji]; exact hj
  refine ⟨v, W', hdr', upd ow' id none, h1, ?_, ?_, by simp [AV.men]⟩
  · have := r4
    simp only [hst] at this
    exact this
  · simp only [RepA]
    refine RepV.ofC ?_ rfl
    rw [hv]
    rcases hent with ⟨_, g, _⟩ | ⟨g1, _, ao, g2⟩ | ⟨g, _⟩
    · exact g.mono fun b hb => ⟨hok b hb, rfl⟩
    · simp only at g1; subst g1; rw [g2]; exact .nil
    · cases g

end
end Go.AM
/- Storing, boxes, aggregates, new rows, cuts of rows. -/
set_option linter.all false
namespace Go.AM
open Go
variable [dr : Inhabited Prop]

section congr
variable {P : Program} {C : Cx} {n : Nat} {F : Nat → Prop} {s : St} {a : Act} {W : World} {hdr : Nat → Value} {ow : Nat → Option Nat}

/-- A state tells by its look-ups alone. -/
theorem RelAt.congr (r : RelAt C n F s a W hdr ow) {E : Env} {H : Heap} {m : Nat} (hE : ∀ t x, find E t = some x → find s.env t = some x) (hH : ∀ k, find H k = find s.heap k) : RelAt C n F ⟨E, H, m⟩ a W hdr ow := by
  have hown : ∀ b, Own H ow b ↔ Own s.heap ow b := by intro b; unfold Own; simp only [hH]
  have hok : ∀ b, OK C W s.heap ow b → OK C W H ow b ∧ W.heap[b]? = W.heap[b]? := fun b hb => ⟨⟨hb.1, fun h => hb.2 ((hown b).1 h)⟩, rfl⟩
  have me := r.mem
  refine ⟨⟨?_, ?_, ?_, me.size, me.frame, me.os, me.tape, me.output⟩, r.defers, r.tsz, ?_, fun t x h => r.idsE t x (hE t x h), fun k e h => r.idsH k e (by rw [← hH]; exact h), r.idsG, fun k hk e h => r.gh k hk e (by rw [← hH]; exact h), fun k e c h => r.idsR k e c (by rw [← hH]; exact h)⟩
  · intro k e he; rw [hH] at he; exact (me.ent k e he).mono hok (fun _ _ => rfl) (fun _ _ => rfl)
  · intro k k' e e' b h h'; rw [hH] at h h'; exact me.inj k k' e e' b h h'
  · intro k e b h; rw [hH] at h; exact me.lt k e b h
  · intro t x h; exact RepA.mono hok x _ (fun k _ e he => ⟨e, by rw [← hH]; exact he, rfl, rfl⟩) (r.env t x (hE t x h))
end congr

theorem lay_elem {c : List Value} {o' L i off sz : Nat} {news : List Value} (h1 : off + news.length ≤ sz) (h2 : (i + 1) * sz ≤ L * sz) (h3 : o' + L * sz ≤ c.length) :
    ((lay c (o' + i * sz + off) news).drop o').take (L * sz) =
      ((c.drop o').take (L * sz)).take (i * sz) ++ lay ((((c.drop o').take (L * sz)).drop (i * sz)).take sz) off news ++ ((c.drop o').take (L * sz)).drop ((i + 1) * sz) := by
  have hm : (i + 1) * sz = i * sz + sz := by rw [Nat.add_mul, Nat.one_mul]
  have hl : ((c.drop o').take (L * sz)).length = L * sz := by rw [List.length_take, List.length_drop]; omega
  have hd : (c.drop o').length = c.length - o' := List.length_drop
  rw [drop_lay (by omega) (by omega)]
  have e : o' + i * sz + off - o' = i * sz + off := by omega
  rw [e, take_lay (by omega) (by omega), lay_seg h1 (by omega), hm]

section
variable {P : Program} {C : Cx} {n : Nat} {F : Nat → Prop} {s : St} {a : Act} {W : World} {hdr : Nat → Value} {ow : Nat → Option Nat} {id : Nat} {o : Oper}

theorem capV_ok (r : RelAt C n F s a W hdr ow) {x : AV} {v : Value} {p : PV} {H' : Heap} (hx : RepA W (OK C W s.heap ow) hdr s.heap x v) (h : capV s.heap x = some (p, H')) :
    ∃ ow', RelAt C n F { s with heap := H' } a W hdr ow' ∧ (p.isSt = false ∧ RepC W (OK C W H' ow') p [v]) ∧ (∀ b, OK C W s.heap ow b → OK C W H' ow' b) ∧
      (∀ k e, find H' k = some e → ∃ e0, find s.heap k = some e0 ∧ e0.sz = e.sz ∧ e0.l = e.l) := by
  cases x with
  | rp cs =>
    simp only [capV, Option.some.injEq, Prod.mk.injEq] at h
    obtain ⟨rfl, rfl⟩ := h
    simp only [RepA] at hx
    obtain ⟨b, o', c, rfl, h2, h3, h4, h5⟩ := hx
    exact ⟨ow, r, ⟨rfl, .pt h2 h3 h5 h4⟩, fun b hb => hb, fun k e he => ⟨e, he, rfl, rfl⟩⟩
  | ptr id i off =>
    simp only [capV] at h
    split at h
    · rename_i e he
      split at h
      · cases h
      rename_i hz
      split at h
      · rename_i w hw
        simp only [Option.some.injEq, Prod.mk.injEq] at h
        obtain ⟨rfl, hH⟩ := h
        simp only [RepA] at hx
        obtain ⟨b0, o0, n0, c0, hx1, rfl⟩ := hx e he
        have hid : RepA W (OK C W s.heap ow) hdr s.heap (.h id) (hdr id) := by simp [RepA]
        have ht : tov false s.heap (.h id) = some (.sl e.sz e.l, H') := by
          simp only [tov, he, if_neg hz]
          by_cases hf : e.fro = true
          · rw [if_pos hf] at hH ⊢; rw [hH]
          · rw [if_neg hf] at hH ⊢; rw [if_neg (by simp), hH]
        obtain ⟨ow', r1, hv, hok, hent⟩ := tov_ok r hid ht
        refine ⟨ow', r1, ⟨rfl, ?_⟩, hok, hent⟩
        rcases hv.slInv.slInv with ⟨h1, _⟩ | ⟨b, off', cap, c, h1, h2, h3, h4, h5, h6⟩
        · rw [h1] at hw; simp at hw
        · simp only [List.cons.injEq, and_true] at h1
          rw [h1] at hx1
          simp only [Value.slice.injEq, Option.some.injEq, Addr.mk.injEq, and_true] at hx1
          obtain ⟨⟨rfl, rfl⟩, _, _⟩ := hx1
          obtain ⟨g1, g2, g3⟩ := elem_row hz h6 hw
          have g4 := g1.cells
          have hrp : RepA W (OK C W H' ow') hdr H' (.rp w.cells) (.pointer (some ⟨b, off' + i * e.sz, none⟩)) := by
            simp only [RepA]
            exact ⟨b, _, c, rfl, h2, h3, by rw [g2]; exact g4.1, g4.2⟩
          have := hrp.rpDrop off
          simp only [RepA] at this
          obtain ⟨b2, o2, c2, k1, k2, k3, k4, k5⟩ := this
          rw [Ent.w_of hz, k1]
          exact .pt k2 k3 k5 k4
      · cases h
    · cases h
  | _ => simp [capV] at h

theorem capVs_ok : ∀ (l : List AV) (vs : List Value) (s : St) (ow : Nat → Option Nat) (ps : List PV) (H' : Heap), RelAt C n F s a W hdr ow → RepAs W (OK C W s.heap ow) hdr s.heap l vs → capVs s.heap l = some (ps, H') →
    ∃ ow', RelAt C n F { s with heap := H' } a W hdr ow' ∧ ((∀ p ∈ ps, p.isSt = false) ∧ RepL W (OK C W H' ow') 1 ps vs) ∧ (∀ b, OK C W s.heap ow b → OK C W H' ow' b) ∧
      (∀ k e, find H' k = some e → ∃ e0, find s.heap k = some e0 ∧ e0.sz = e.sz ∧ e0.l = e.l)
  | [], vs, s, ow, ps, H', r, hx, h => by
    simp only [capVs, Option.some.injEq, Prod.mk.injEq] at h
    obtain ⟨rfl, rfl⟩ := h
    cases vs with
    | nil => exact ⟨ow, r, ⟨by simp, .nil⟩, fun b hb => hb, fun k e he => ⟨e, he, rfl, rfl⟩⟩
    | cons v vs => simp [RepAs] at hx
  | x :: l, [], s, ow, ps, H', r, hx, h => by simp [RepAs] at hx
  | x :: l, v :: vs, s, ow, ps, H', r, hx, h => by
    simp only [capVs] at h
    simp only [RepAs] at hx
    split at h
    · rename_i p H1 h1
      split at h
      · rename_i ps2 H2 h2
        simp only [Option.some.injEq, Prod.mk.injEq] at h
        obtain ⟨rfl, rfl⟩ := h
        obtain ⟨ow1, r1, ⟨q1, q2⟩, q3, q4⟩ := capV_ok r hx.1 h1
        have hl : RepAs W (OK C W H1 ow1) hdr H1 l vs := RepAs.mono (fun b hb => ⟨q3 b hb, rfl⟩) l vs (fun id _ e' he' => by
          obtain ⟨e0, g1, g2, _⟩ := q4 id e' he'
          exact ⟨e0, g1, rfl, g2.symm⟩) hx.2
        obtain ⟨ow2, r2, ⟨k1, k2⟩, k3, k4⟩ := capVs_ok l vs { s with heap := H1 } ow1 ps2 H2 r1 hl h2
        refine ⟨ow2, r2, ⟨?_, RepL.cons (vs := [v]) rfl (q2.mono fun b hb => ⟨k3 b hb, rfl⟩) k2⟩, fun b hb => k3 b (q3 b hb), fun k e he => ?_⟩
        · intro p' hp'
          rcases List.mem_cons.1 hp' with rfl | hp'
          · exact q1
          · exact k1 p' hp'
        · obtain ⟨e1, g1, g2, g3⟩ := k4 k e he
          obtain ⟨e0, g4, g5, g6⟩ := q4 k e1 g1
          exact ⟨e0, g4, g5.trans g2, g6.trans g3⟩
      · cases h
    · cases h

theorem tov2_ok (r : RelAt C n F s a W hdr ow) {x : AV} {v : Value} {p : PV} {H' : Heap} (hx : RepA W (OK C W s.heap ow) hdr s.heap x v) {q : Bool} (h : tov2 q s.heap x = some (p, H')) :
    ∃ ow', RelAt C n F { s with heap := H' } a W hdr ow' ∧ RepV W (OK C W H' ow') p v ∧ (∀ b, OK C W s.heap ow b → OK C W H' ow' b) ∧
      (∀ k e, find H' k = some e → ∃ e0, find s.heap k = some e0 ∧ e0.sz = e.sz ∧ e0.l = e.l) := by
  unfold tov2 at h
  split at h
  · rename_i f c cs
    split at h
    · cases h
    · simp only [Option.map_eq_some_iff, Prod.mk.injEq] at h
      obtain ⟨⟨ps, H1⟩, h1, rfl, rfl⟩ := h
      simp only [RepA] at hx
      obtain ⟨vs, rfl, hvs⟩ := hx
      obtain ⟨ow', r1, ⟨q1, q2⟩, q3, q4⟩ := capVs_ok (c :: cs) vs s ow ps H1 r hvs h1
      exact ⟨ow', r1, RepV.ofC (.cl q1 q2) rfl, q3, q4⟩
  · exact tov_ok r hx h

theorem stt_core (r : RelAt C n F s a W hdr ow) {x y : Operand} {x' y' : Opd} {t t1 t2 : TypeId} {q i off : Nat} {u : AV} {p el : PV} {H1 : Heap} {en : Ent} (ho : o.op = .store t x y) (hk : knownT P t = true) (hx : opd P t1 x = some x') (hy : opd P t2 y = some y')
    (hu : ev s.env x' = some (.ptr q i off)) (hv : ev s.env y' = some u) {qq : Bool} (hp : tov2 qq s.heap u = some (p, H1)) (hq : find H1 q = some en) (hel : en.l[i]? = some el) (hf : en.fro = false) (hpc : p.cells.length = szT P t)
    (hoff : off + szT P t ≤ el.cells.length) (hec : el.cells.length = en.sz) (hz : en.sz ≠ 0) :
    ∃ W' ow', (execOp a.eval o).run P W = .ok .skip W' ∧ RelAt C n F { s with heap := setIn H1 q { en with l := en.l.set i (mkEl el (layP el.cells off p.cells)) } } a W' hdr ow' := by
  have hux := (opd_ok r hx hu).1
  have hvy := (opd_ok r hy hv).1
  obtain ⟨ow1, r1, hpv, hok1, hh⟩ := tov2_ok r hvy hp
  obtain ⟨e0, he0, hes, hel0⟩ := hh q en hq
  simp only [RepA] at hux
  obtain ⟨b', o', n', c', hx1, hx2⟩ := hux e0 he0
  have hi : i < en.l.length := (List.getElem?_eq_some_iff.1 hel).1
  rcases r1.getOwn hq hf hz with ⟨g1, _⟩ | ⟨b, off2, cap, c, g1, g2, g3, g4, g5, g6⟩
  · rw [g1] at hel; simp at hel
  · rw [hx1] at g2
    simp only [Value.slice.injEq, Option.some.injEq, Addr.mk.injEq, and_true] at g2
    obtain ⟨⟨rfl, rfl⟩, rfl, rfl⟩ := g2
    rw [Ent.w_congr hes, Ent.w_of hz] at hx2
    have hpC := hpv.toC
    obtain ⟨hp1, hp2⟩ := hpC.cells
    have hpl : (a.eval y).cells.toList.length = szT P t := by
      have := hp1.length; rw [Nat.mul_one] at this; rw [this, hpc]
    have hseg : (i + 1) * en.sz ≤ en.l.length * en.sz := Nat.mul_le_mul_right _ hi
    have hm : (i + 1) * en.sz = i * en.sz + en.sz := by rw [Nat.add_mul, Nat.one_mul]
    have hcap := Nat.mul_le_mul_right en.sz g5
    have hvl := g6.length
    have hrun : (storeVar t ⟨b', o' + i * en.sz + off, none⟩ (a.eval y)).run P W = .ok () (W.setCells b' (o' + i * en.sz + off) (a.eval y).cells.toList) := by
      have hst := run_storeCells_cells (P := P) b' (o' + i * en.sz + off) (a.eval y).cells.toList 0 W
        (by intro j hj; rw [cell_row (rowO_row g3), List.getElem?_eq_getElem (by omega)]; rfl)
        (by intro j hj; exact rowO_frozen g3 _) (hp1.oneCell hp2)
      rw [Nat.add_zero] at hst
      have hsz2 : (a.eval y).cells.size = szT P t := by rw [← Array.length_toList]; exact hpl
      simp [storeVar, run_sizeOf hk, hsz2, hst]
    have hexec : (execOp a.eval o).run P W = .ok .skip (W.setCells b' (o' + i * en.sz + off) (a.eval y).cells.toList) := by
      simp [execOp, ho, Instr.storeAt, Instr.sureAddr, hx2, hrun]
    obtain ⟨k1, k2, k3, k4, k5, k6⟩ := setCells_row b' (a.eval y).cells.toList (o' + i * en.sz + off) c W g3 (by omega)
    have elr := g6.get hel
    have e1 : (((lay c (o' + i * en.sz + off) (a.eval y).cells.toList).drop o').take (en.l.length * en.sz)) =
        ((c.drop o').take (en.l.length * en.sz)).take (i * en.sz) ++ lay ((((c.drop o').take (en.l.length * en.sz)).drop (i * en.sz)).take en.sz) off (a.eval y).cells.toList ++ ((c.drop o').take (en.l.length * en.sz)).drop ((i + 1) * en.sz) := by
      exact lay_elem (by omega) hseg (by omega)
    have r2 := r1.write (id := q) (e := en) hq (W' := W.setCells b' (o' + i * en.sz + off) (a.eval y).cells.toList) (b := b') (off := o') (cap := c') (l' := en.l.set i (mkEl el (layP el.cells off p.cells))) hz g1 hx1
      (by simp) hf g5 k1 k2 k3 k4 k5 k6 (by rw [lay_length (by omega)]; exact g4) (by
        rw [List.length_set, e1]
        refine g6.set hi ?_ ?_
        · exact elr.1.layEl hpC (by omega)
        · have : (((((c.drop o').take (en.l.length * en.sz)).drop (i * en.sz)).take en.sz)).length = en.sz := by simp only [List.length_take, List.length_drop] at *; omega
          rw [lay_length (by rw [this]; omega), this])
    exact ⟨_, _, hexec, r2⟩

theorem snd_stt (r : RelAt C n F s a W hdr ow) {x y : Operand} {x' y' : Opd} {t t1 t2 : TypeId} {q i off : Nat} {u : AV} {p el : PV} {H1 : Heap} {en : Ent} (ho : o.op = .store t x y) (hk : knownT P t = true) (hx : opd P t1 x = some x') (hy : opd P t2 y = some y')
    (hu : ev s.env x' = some (.ptr q i off)) (hv : ev s.env y' = some u) {qq : Bool} (hp : tov2 qq s.heap u = some (p, H1)) (hq : find H1 q = some en) (hel : en.l[i]? = some el) (hf : en.fro = false) (hpc : p.cells.length = szT P t)
    (hoff : off + szT P t ≤ el.cells.length) (hec : el.cells.length = en.sz) (hz : en.sz ≠ 0) :
    Snd P C n F s a W id o .u (setIn H1 q { en with l := en.l.set i (mkEl el (layP el.cells off p.cells)) }) := by
  obtain ⟨W', ow', h1, h2⟩ := stt_core r ho hk hx hy hu hv hp hq hel hf hpc hoff hec hz
  exact ⟨undef, _, _, _, .inr ⟨h1, rfl⟩, h2.monoF fun i h => .inl h, by simp [RepA], by simp [AV.men]⟩

theorem men_ptr {i : Nat} (j : Nat) (h : (AV.ptr id 0 0).men j) : F j ∨ j = id := .inr (by simpa [AV.men] using h.symm)
theorem men_h (j : Nat) (h : (AV.h id).men j) : F j ∨ j = id := .inr (by simpa [AV.men] using h.symm)

theorem repA_newPtr {W' : World} {ok : Nat → Prop} {H : Heap} {e : Ent} {b l c : Nat} : RepA W' ok (upd hdr id (.slice (some ⟨b, 0, none⟩) l c)) ((id, e) :: H) (.ptr id 0 0) (.pointer (some ⟨b, 0, none⟩)) := by
  simp only [RepA]
  intro e' _
  exact ⟨b, 0, l, c, by simp [upd], by simp⟩

theorem snd_box (r : RelAt C n F s a W hdr ow) (hid : ¬ F id) {y : Operand} {y' : Opd} {t t2 : TypeId} {u : AV} {p : PV} {H1 : Heap} (ho : o.op = .box t y) (hy : opd P t2 y = some y')
    (hv : ev s.env y' = some u) {qq : Bool} (hp : tov qq s.heap u = some (p, H1)) (hz : p.cells.length ≠ 0) : Snd P C n F s a W id o (.ptr id 0 0) ((id, ⟨false, p.cells.length, [p]⟩) :: H1) := by
  have hvy := (opd_ok r hy hv).1
  obtain ⟨ow1, r1, hpv, hok1, hh⟩ := tov_ok r hvy hp
  have hpC := hpv.toC
  have hpl : (a.eval y).cells.toList.length = p.cells.length := by
    have := (hpC.cells).1.length; rw [Nat.mul_one] at this; exact this
  have r2 := r1.alloc (id := id) (sz := p.cells.length) (cap := 1) (l := [p]) (c := (a.eval y).cells.toList) hid t hz (by omega) (by simp) (by
    rw [List.take_of_length_le (by rw [hpl, List.length_singleton, Nat.one_mul]; exact Nat.le_refl _), ← hpl]; exact RepL.one hpC)
  refine ⟨.pointer (some ⟨W.heap.size, 0, none⟩), _, _, _, .inl ?_, r2, repA_newPtr, fun j => men_ptr (i := 0) j⟩
  simp [execOp, ho, Instr.box, newVar, newRow]

theorem zeroP_ok {ok : Nat → Prop} {t : TypeId} {z : List PV} (h : zeroP P t = some z) : ∃ i v, P.info? t = some i ∧ i.zero = some v ∧ RepL W ok 1 z v.cells.toList ∧ (∀ p ∈ z, p.isSt = false) ∧ z.length = v.cells.size := by
  unfold zeroP at h
  split at h
  · rename_i i hi
    split at h
    · rename_i v hv
      obtain ⟨g1, g2⟩ := mapZ_ok (W := W) (ok := ok) h
      refine ⟨i, v, hi, hv, g1, g2, ?_⟩
      have := g1.length
      rw [Nat.mul_one, Array.length_toList] at this; exact this.symm
    · cases h
  · cases h

theorem zeroB_ok {ok : Nat → Prop} {b : Bool} {t : TypeId} {z : List PV} (h : zeroB P b t = some z) : ∃ i v, P.info? t = some i ∧ i.zero = some v ∧ RepL W ok 1 z v.cells.toList ∧ (∀ p ∈ z, p.isSt = false) ∧ z.length = v.cells.size := by
  unfold zeroB at h
  split at h
  · unfold zeroN at h
    split at h
    · rename_i i hi
      split at h
      · rename_i v hv
        obtain ⟨g1, g2⟩ := mapN_ok (W := W) (ok := ok) h
        refine ⟨i, v, hi, hv, g1, g2, ?_⟩
        have := g1.length
        rw [Nat.mul_one, Array.length_toList] at this; exact this.symm
      · cases h
    · cases h
  · exact zeroP_ok h

theorem run_zero {t : TypeId} {i : TypeInfo} {v : Value} (hi : P.info? t = some i) (hv : i.zero = some v) (w : World) : (zeroValue t).run P w = .ok v w := by
  simp [zeroValue, typeInfo, hi, hv]

theorem zOf_ok {ok : Nat → Prop} {agg : Bool} {z : List PV} {vs : List Value} (r : RepL W ok 1 z vs) (hs : ∀ p ∈ z, p.isSt = false) (h : agg = true ∨ z.length = 1) : RepC W ok (zOf agg z) vs ∧ (zOf agg z).cells.length = z.length := by
  unfold zOf
  by_cases ha : agg = true
  · rw [if_pos ha]; exact ⟨.st hs r, rfl⟩
  · rw [if_neg ha]
    have hl := h.resolve_left ha
    match z, hl with
    | [x], _ =>
      cases r with
      | cons g1 g2 g3 =>
        cases g3
        refine ⟨by simpa using g2, ?_⟩
        have := hs x (by simp)
        cases x <;> simp at *

theorem snd_alloc (r : RelAt C n F s a W hdr ow) (hid : ¬ F id) {t : TypeId} {agg bb : Bool} {z : List PV} (ho : o.op = .alloc t) (hz : zeroB P bb t = some z) (ha : agg = true ∨ z.length = 1) (hz0 : z.length ≠ 0) :
    Snd P C n F s a W id o (.ptr id 0 0) ((id, ⟨false, z.length, [zOf agg z]⟩) :: s.heap) := by
  obtain ⟨i, v, hi, hv, g1, g2, g3⟩ := zeroB_ok (W := W) (ok := OK C W s.heap ow) hz
  obtain ⟨k1, k2⟩ := zOf_ok g1 g2 ha
  have hl : v.cells.toList.length = z.length := by rw [Array.length_toList, g3]
  have r2 := r.alloc (id := id) (sz := z.length) (cap := 1) (l := [zOf agg z]) (c := v.cells.toList) hid t hz0 (by omega) (by simp) (by
    rw [List.take_of_length_le (by rw [hl, List.length_singleton, Nat.one_mul]; exact Nat.le_refl _), ← hl]; exact RepL.one k1)
  refine ⟨.pointer (some ⟨W.heap.size, 0, none⟩), _, _, _, .inl ?_, r2, repA_newPtr, fun j => men_ptr (i := 0) j⟩
  simp [execOp, ho, Instr.alloc, run_zero hi hv, newVar, newRow]

/-- The parts of an aggregate. -/
theorem buildP_ok {qq : Bool} {place : Nat → Option (Nat × Nat)} {g : Nat × Operand → Option (Nat × Nat × Opd)} (hg : ∀ i x off sz y, g (i, x) = some (off, sz, y) → place i = some (off, sz) ∧ ∃ t, opd P t x = some y) :
    ∀ (xs : List (Nat × Operand)) (ps : List (Nat × Nat × Opd)) (s : St) (ow : Nat → Option Nat) (cs cs' : List PV) (cells : Array Value) (H' : Heap), RelAt C n F s a W hdr ow → mapO g xs = some ps →
      RepL W (OK C W s.heap ow) 1 cs cells.toList → (∀ p ∈ cs, p.isSt = false) → buildP qq s.env cs s.heap ps = some (cs', H') →
      ∃ cells' ow', Instr.fill place cells (xs.map fun q => (q.1, a.eval q.2)) = some cells' ∧ RelAt C n F { s with heap := H' } a W hdr ow' ∧ RepL W (OK C W H' ow') 1 cs' cells'.toList ∧ ∀ p ∈ cs', p.isSt = false
  | [], ps, s, ow, cs, cs', cells, H', r, hm, hr, hs, hb => by
    simp [mapO] at hm; subst hm
    simp [buildP] at hb
    obtain ⟨rfl, rfl⟩ := hb
    exact ⟨cells, ow, rfl, r, hr, hs⟩
  | (i, x) :: xs, ps, s, ow, cs, cs', cells, H', r, hm, hr, hs, hb => by
    simp only [mapO] at hm
    split at hm
    · rename_i y ys h1 h2
      cases hm
      obtain ⟨off, sz, y⟩ := y
      obtain ⟨hp, t, ht⟩ := hg i x off sz y h1
      simp only [buildP] at hb
      split at hb
      · rename_i p H1 hpe
        obtain ⟨u, hu, hpe⟩ := Option.bind_eq_some_iff.1 hpe
        split at hb
        · rename_i hc
          obtain ⟨ow1, r1, hpv, hok1, _⟩ := tov_ok r (opd_ok r ht hu).1 hpe
          have hpC := hpv.toC
          obtain ⟨q1, q2⟩ := hpC.cells
          have hpl : (a.eval x).cells.size = sz := by
            have := q1.length; rw [Nat.mul_one, Array.length_toList] at this; omega
          have hcl : cells.size = cs.length := by
            have := hr.length; rw [Nat.mul_one, Array.length_toList] at this; exact this
          have hr1 := (hr.mono fun b hb => ⟨hok1 b hb, rfl⟩).lay (off := off) q1
          have hfl := fold_lay' off (a.eval x).cells cells (by omega)
          rw [← hfl] at hr1
          obtain ⟨cells', ow', k1, k2, k3, k4⟩ := buildP_ok hg xs ys { s with heap := H1 } ow1 _ cs' _ H' r1 h2 hr1 (layP_mem hs q2) hb
          refine ⟨cells', ow', ?_, k2, k3, k4⟩
          simp only [List.map_cons, Instr.fill, hp]
          rw [if_neg (by simp [hpl]; omega)]
          exact k1
        · cases hb
      · cases hb
    · cases hm

/-- The elements of a row. -/
theorem buildL_ok {qq : Bool} {sz : Nat} {g : Nat × Operand → Option (Nat × Opd)} (hg : ∀ i x j y, g (i, x) = some (j, y) → j = i ∧ ∃ t, opd P t x = some y) :
    ∀ (xs : List (Nat × Operand)) (ps : List (Nat × Opd)) (s : St) (ow : Nat → Option Nat) (cs cs' : List PV) (cells : Array Value) (H' : Heap), RelAt C n F s a W hdr ow → mapO g xs = some ps →
      RepL W (OK C W s.heap ow) sz cs cells.toList → buildL qq s.env sz cs s.heap ps = some (cs', H') →
      ∃ cells' ow', Instr.fill (fun i => some (i * sz, sz)) cells (xs.map fun q => (q.1, a.eval q.2)) = some cells' ∧ RelAt C n F { s with heap := H' } a W hdr ow' ∧ RepL W (OK C W H' ow') sz cs' cells'.toList ∧ cs'.length = cs.length
  | [], ps, s, ow, cs, cs', cells, H', r, hm, hr, hb => by
    simp [mapO] at hm; subst hm
    simp [buildL] at hb
    obtain ⟨rfl, rfl⟩ := hb
    exact ⟨cells, ow, rfl, r, hr, rfl⟩
  | (i, x) :: xs, ps, s, ow, cs, cs', cells, H', r, hm, hr, hb => by
    simp only [mapO] at hm
    split at hm
    · rename_i y ys h1 h2
      cases hm
      obtain ⟨j, y⟩ := y
      obtain ⟨rfl, t, ht⟩ := hg i x j y h1
      simp only [buildL] at hb
      split at hb
      · rename_i p H1 hpe
        obtain ⟨u, hu, hpe⟩ := Option.bind_eq_some_iff.1 hpe
        split at hb
        · rename_i hc
          obtain ⟨ow1, r1, hpv, hok1, _⟩ := tov_ok r (opd_ok r ht hu).1 hpe
          have hpC := hpv.toC
          have hpl : (a.eval x).cells.toList.length = sz := by
            have := (hpC.cells).1.length; rw [Nat.mul_one] at this; omega
          have hcl : cells.size = cs.length * sz := by
            have := hr.length; rw [Array.length_toList] at this; exact this
          have hseg : (j + 1) * sz ≤ cs.length * sz := Nat.mul_le_mul_right _ (by omega)
          have hm' : (j + 1) * sz = j * sz + sz := by rw [Nat.add_mul, Nat.one_mul]
          have hr1 := (hr.mono fun b hb => ⟨hok1 b hb, rfl⟩).set hc.2 hpC hpl
          have hsz : (a.eval x).cells.size = sz := by rw [← Array.length_toList]; exact hpl
          have hfl := fold_lay' (j * sz) (a.eval x).cells cells (by omega)
          have e2 : lay cells.toList (j * sz) (a.eval x).cells.toList = cells.toList.take (j * sz) ++ (a.eval x).cells.toList ++ cells.toList.drop ((j + 1) * sz) := by
            unfold lay; rw [hpl, hm']
          rw [← e2, ← hfl] at hr1
          obtain ⟨cells', ow', k1, k2, k3, k4⟩ := buildL_ok hg xs ys { s with heap := H1 } ow1 _ cs' _ H' r1 h2 hr1 hb
          refine ⟨cells', ow', ?_, k2, k3, by simpa using k4⟩
          simp only [List.map_cons, Instr.fill]
          rw [if_neg (by simp [hsz]; omega)]
          exact k1
        · cases hb
      · cases hb
    · cases hm

theorem snd_build {qq zb : Bool} (r : RelAt C n F s a W hdr ow) {t : TypeId} {xs : Array (Nat × Operand)} {ps : List (Nat × Nat × Opd)} {z cs : List PV} {H' : Heap} {place : Nat → Option (Nat × Nat)} {g : Nat × Operand → Option (Nat × Nat × Opd)}
    (ho : o.op = .build t xs) (hz : zeroB P zb t = some z) (hg : ∀ i x off sz y, g (i, x) = some (off, sz, y) → place i = some (off, sz) ∧ ∃ t, opd P t x = some y) (hm : mapO g xs.toList = some ps) (hb : buildP qq s.env z s.heap ps = some (cs, H'))
    (hrun : ∀ (v : Value) (i : TypeInfo) (cells : Array Value), P.info? t = some i → i.zero = some v → Instr.fill place v.cells (xs.toList.map fun q => (q.1, a.eval q.2)) = some cells → (execOp a.eval o).run P W = .ok (.value (.agg cells)) W) :
    Snd P C n F s a W id o (.v (.st cs)) H' := by
  obtain ⟨i, v, hi, hv, g1, g2, g3⟩ := zeroB_ok (W := W) (ok := OK C W s.heap ow) hz
  obtain ⟨cells, ow', k1, k2, k3, k4⟩ := buildP_ok hg xs.toList ps s ow z cs v.cells H' r hm g1 g2 hb
  refine ⟨.agg cells, W, hdr, ow', .inl (hrun v i cells hi hv k1), k2.monoF fun i h => .inl h, ?_, by simp [AV.men]⟩
  simp only [RepA]
  have := RepV.st k3 k4
  simpa using this

/-- A row becomes an element of a row of rows that are all owned. -/
theorem sttD_core (r : RelAt C n F s a W hdr ow) {x y : Operand} {x' y' : Opd} {t t1 t2 : TypeId} {k off cc : Nat} {e ec : Ent} {g : PV} {rest : List PV} {c0 : Nat} {ov : Option (Nat × Nat)} (ho : o.op = .store t x y) (hk : knownT P t = true) (hsz : szT P t = 1) (hx : opd P t1 x = some x') (hy : opd P t2 y = some y')
    (hu : ev s.env x' = some (.ptr k 0 off)) (hv : ev s.env y' = some (.h cc)) (hq : find s.heap k = some e) (hc : find s.heap cc = some ec) (hf : e.fro = false) (hz : e.sz = 0) (hzc : ec.sz ≠ 0) (hl : e.l = g :: rest) (hd : decD g = some (c0, ov)) (hlt : off < rest.length)
    (hold : ∀ i c, ov = some (i, c) → i = off) :
    ∃ W', (execOp a.eval o).run P W = .ok .skip W' ∧ RelAt C n F { s with heap := setIn s.heap k ⟨false, 0, encP c0 off cc :: rest⟩ } a W' hdr ow := by
  have hux := (opd_ok r hx hu).1
  have hvy := (opd_ok r hy hv).1
  have hmc := (opd_ok r hy hv).2 cc (by simp [AV.men])
  simp only [RepA] at hvy
  have hvy := hvy ec hc
  have hsl : ∃ a m n, hdr cc = .slice a m n := by
    rcases (r.mem.ent cc ec hc).plain hzc with ⟨_, h2, _⟩ | ⟨_, _, ao, h3⟩ | ⟨_, b, off, cap, c, _, h2, _⟩
    · rcases h2.slInv with ⟨_, ao, h⟩ | ⟨b, off, cap, c, h, _⟩
      · simp at h; exact ⟨_, _, _, h⟩
      · simp at h; exact ⟨_, _, _, h⟩
    · exact ⟨_, _, _, h3⟩
    · exact ⟨_, _, _, h2⟩
  obtain ⟨b, o', cap, c, w, h1, h2, h3, h4, h5, h6, h7, h8⟩ := deep_at r hux hq hz hf hl hd hlt
  have hcells : (a.eval y).cells.toList = [hdr cc] := by
    obtain ⟨a1, m1, n1, e1⟩ := hsl
    rw [hvy, e1]; rfl
  have hone : ∀ v ∈ [hdr cc], v.oneCell' = true := by
    obtain ⟨a1, m1, n1, e1⟩ := hsl
    intro v hv; simp at hv; subst hv; rw [e1]; rfl
  have hrun : (storeVar t ⟨b, o' + off, none⟩ (a.eval y)).run P W = .ok () (W.setCells b (o' + off) [hdr cc]) := by
    have hst := run_storeCells_cells (P := P) b (o' + off) [hdr cc] 0 W
      (by intro j hj; simp at hj; subst hj; rw [cell_row (rowO_row h3)]; simp [h7])
      (by intro j hj; exact rowO_frozen h3 _) hone
    rw [Nat.add_zero] at hst
    have hsz2 : (a.eval y).cells.size = szT P t := by rw [← Array.length_toList, hcells, hsz]; rfl
    simp [storeVar, run_sizeOf hk, hsz2, hcells, hst]
  have hexec : (execOp a.eval o).run P W = .ok .skip (W.setCells b (o' + off) [hdr cc]) := by
    simp [execOp, ho, Instr.storeAt, Instr.sureAddr, h6, hrun]
  have hcl : o' + off < c.length := by omega
  obtain ⟨k1, k2, k3, k4, k5, k6⟩ := setCells_row b [hdr cc] (o' + off) c W h3 (by simp; omega)
  have hdAt : ∀ j, j ≠ off → dAt c0 (some (off, cc)) j = dAt c0 ov j := by
    intro j hj
    cases ov with
    | none => simp [dAt, hj]
    | some p =>
      obtain ⟨i, c1⟩ := p
      have := hold i c1 rfl
      subst this
      simp [dAt, hj]
  have hdec : decD (encP c0 off cc) = some (c0, some (off, cc)) := by simp [decD]
  refine ⟨_, hexec, r.writeE (e' := ⟨false, 0, encP c0 off cc :: rest⟩) hq h1 hz.symm k2 k3 k4 k5 k6 (.inr (.inr (.inl ⟨rfl, rfl, encP c0 off cc, rest, c0, some (off, cc), rfl, hdec, .inr ⟨b, o', cap, lay c (o' + off) [hdr cc], rfl, h2, k1, by rw [lay_length (by simp; omega)]; exact h4, h5, ?_⟩⟩))) ?_⟩
  · intro j v' hj hv'
    rw [lay_get (by simp; omega)] at hv'
    by_cases hjo : j = off
    · subst hjo
      rw [if_neg (by omega), if_pos (by simp), Nat.sub_self] at hv'
      simp at hv'
      subst hv'
      exact ⟨by simp [dAt], hsl⟩
    · rw [hdAt j hjo]
      refine h8 j v' hj ?_
      split at hv'
      · exact hv'
      · split at hv'
        · rename_i q1 q2; simp at q2; omega
        · exact hv'
  · intro c' hc'
    obtain ⟨j, hj, e1⟩ := (Ent.refs_D rfl rfl hdec).1 hc'
    by_cases hjo : j = off
    · subst hjo; simp [dAt] at e1; rw [e1]; exact hmc
    · rw [hdAt j hjo] at e1
      exact r.idsR k e c' hq ((Ent.refs_D hz hl hd).2 ⟨j, hj, e1⟩)

/-- A row becomes an element of a row of rows. -/
theorem sttN_core (r : RelAt C n F s a W hdr ow) {x y : Operand} {x' y' : Opd} {t t1 t2 : TypeId} {k off cc : Nat} {e ec : Ent} {g : PV} {rest : List PV} {rf : Option (Nat × Nat)} (ho : o.op = .store t x y) (hk : knownT P t = true) (hsz : szT P t = 1) (hx : opd P t1 x = some x') (hy : opd P t2 y = some y')
    (hu : ev s.env x' = some (.ptr k 0 off)) (hv : ev s.env y' = some (.h cc)) (hq : find s.heap k = some e) (hc : find s.heap cc = some ec) (hf : e.fro = false) (hz : e.sz = 0) (hzc : ec.sz ≠ 0) (hl : e.l = g :: rest) (hrf : decR g = some rf) (hlt : off < rest.length)
    (hold : ∀ i c, rf = some (i, c) → i = off) :
    ∃ W', (execOp a.eval o).run P W = .ok .skip W' ∧ RelAt C n F { s with heap := setIn s.heap k ⟨false, 0, encR off cc :: rest⟩ } a W' hdr ow := by
  have hux := (opd_ok r hx hu).1
  have hvy := (opd_ok r hy hv).1
  have hmc := (opd_ok r hy hv).2 cc (by simp [AV.men])
  simp only [RepA] at hvy
  have hvy := hvy ec hc
  have hsl : ∃ a m n, hdr cc = .slice a m n := by
    rcases (r.mem.ent cc ec hc).plain hzc with ⟨_, h2, _⟩ | ⟨_, _, ao, h3⟩ | ⟨_, b, off, cap, c, _, h2, _⟩
    · rcases h2.slInv with ⟨_, ao, h⟩ | ⟨b, off, cap, c, h, _⟩
      · simp at h; exact ⟨_, _, _, h⟩
      · simp at h; exact ⟨_, _, _, h⟩
    · exact ⟨_, _, _, h3⟩
    · exact ⟨_, _, _, h2⟩
  obtain ⟨p, hp⟩ : ∃ p, rest[off]? = some p := ⟨_, List.getElem?_eq_getElem hlt⟩
  obtain ⟨b, o', cap, c, w, h1, h2, h3, h4, h5, h6, h7, h8, h9⟩ := nest_at r hux hq hz hf hl hrf hp
  have hcells : (a.eval y).cells.toList = [hdr cc] := by
    obtain ⟨a1, m1, n1, e1⟩ := hsl
    rw [hvy, e1]; rfl
  have hone : ∀ v ∈ [hdr cc], v.oneCell' = true := by
    obtain ⟨a1, m1, n1, e1⟩ := hsl
    intro v hv; simp at hv; subst hv; rw [e1]; rfl
  have hrun : (storeVar t ⟨b, o' + off, none⟩ (a.eval y)).run P W = .ok () (W.setCells b (o' + off) [hdr cc]) := by
    have hst := run_storeCells_cells (P := P) b (o' + off) [hdr cc] 0 W
      (by intro j hj; simp at hj; subst hj; rw [cell_row (rowO_row h3)]; simp [h7])
      (by intro j hj; exact rowO_frozen h3 _) hone
    rw [Nat.add_zero] at hst
    have hsz2 : (a.eval y).cells.size = szT P t := by rw [← Array.length_toList, hcells, hsz]; rfl
    simp [storeVar, run_sizeOf hk, hsz2, hcells, hst]
  have hexec : (execOp a.eval o).run P W = .ok .skip (W.setCells b (o' + off) [hdr cc]) := by
    simp [execOp, ho, Instr.storeAt, Instr.sureAddr, h6, hrun]
  have hcl : o' + off < c.length := by omega
  obtain ⟨k1, k2, k3, k4, k5, k6⟩ := setCells_row b [hdr cc] (o' + off) c W h3 (by simp; omega)
  have r2 := r.writeE (e' := ⟨false, 0, encR off cc :: rest⟩) hq h1 hz.symm k2 k3 k4 k5 k6 (.inr (.inl ⟨rfl, rfl, encR off cc, rest, some (off, cc), rfl, by simp [decR], .inr ⟨b, o', cap, lay c (o' + off) [hdr cc], rfl, h2, k1, by rw [lay_length (by simp; omega)]; exact h4, h5, ?_⟩⟩))
    (by intro c' hc'; obtain ⟨i, hi⟩ := (Ent.refs_R rfl rfl (rf := some (off, cc)) (by simp [decR])).1 hc'; simp at hi; rw [← hi.2]; exact hmc)
  · exact ⟨_, hexec, r2⟩
  · refine ⟨by rw [List.length_take, List.length_drop, lay_length (by simp; omega)]; omega, ?_⟩
    intro j p' v' hj hv'
    have hjl : j < rest.length := (List.getElem?_eq_some_iff.1 hj).1
    rw [List.getElem?_take, if_pos hjl, List.getElem?_drop, lay_get (by simp; omega)] at hv'
    by_cases hjo : j = off
    · subst hjo
      rw [if_neg (by omega), if_pos (by simp), Nat.sub_self] at hv'
      simp at hv'
      subst hv'
      refine ⟨fun i c1 h _ => ?_, fun h => absurd rfl (h j cc rfl)⟩
      simp at h; rw [← h.2]; exact ⟨rfl, hsl⟩
    · refine ⟨fun i c1 h h' => ?_, fun _ => ?_⟩
      · simp at h; exact absurd (h'.trans h.1.symm) hjo
      · have hv2 : ((c.drop o').take rest.length)[j]? = some v' := by
          rw [List.getElem?_take, if_pos hjl, List.getElem?_drop]
          by_cases h' : o' + j < o' + off
          · rw [if_pos h'] at hv'; exact hv'
          · rw [if_neg h', if_neg (by simp; omega)] at hv'; exact hv'
        refine ((h8.2 j p' v' hj hv2).2 fun i c1 h => by rw [hold i c1 h]; exact hjo).mono fun b' hb' => ⟨hb', k2 b' ?_⟩
        rintro rfl; exact hb'.2 ⟨k, e, hq, h1⟩

theorem layP_get {α : Type} {c : List α} {k : Nat} {news : List α} (h : k + news.length ≤ c.length) (j : Nat) :
    (layP c k news)[j]? = if j < k then c[j]? else if j < k + news.length then news[j - k]? else c[j]? := by
  simp only [layP, List.getElem?_append, List.length_append, List.length_take, List.getElem?_take, List.getElem?_drop]
  have e1 : min k c.length = k := by omega
  rw [e1]
  by_cases h1 : j < k
  · rw [if_pos (by omega), if_pos h1, if_pos h1, if_pos h1]
  · by_cases h2 : j < k + news.length
    · rw [if_pos h2, if_neg h1, if_neg h1, if_pos h2]
    · rw [if_neg h2, if_neg h1, if_neg h2]; congr 1; omega
theorem noSt_all : ∀ {l : List PV}, noSt l = true → ∀ p ∈ l, p.isSt = false
  | [], _, p, hp => by cases hp
  | q :: l, h, p, hp => by
    simp only [noSt, Bool.and_eq_true] at h
    rcases List.mem_cons.1 hp with rfl | hp
    · simpa using h.1
    · exact noSt_all h.2 p hp
theorem RepL.of1 {W : World} {ok : Nat → Prop} : ∀ {l : List PV} {vs : List Value}, vs.length = l.length → (∀ (j : Nat) p v, l[j]? = some p → vs[j]? = some v → RepC W ok p [v]) → RepL W ok 1 l vs
  | [], [], _, _ => .nil
  | [], _ :: _, h, _ => by simp at h
  | _ :: _, [], h, _ => by simp at h
  | p :: l, v :: vs, h, hh => by
    have h1 := hh 0 p v rfl rfl
    have h2 := RepL.of1 (l := l) (vs := vs) (by simpa using h) fun j q w hq hw => hh (j + 1) q w (by simpa using hq) (by simpa using hw)
    simpa using RepL.cons (vs := [v]) rfl h1 h2

/-- A new box, kept as a row of rows. -/
theorem RelAt.allocN (r : RelAt C n F s a W hdr ow) {id : Nat} (hid : ¬ F id) {l : List PV} {c : List Value} (t : TypeId) (hr : RepL W (OK C W s.heap ow) 1 l c) :
    RelAt C n (fun i => F i ∨ i = id) { s with heap := (id, ⟨false, 0, .st [] :: l⟩) :: s.heap } a (W.alloc (.cells c.toArray t)) (upd hdr id (.slice (some ⟨W.heap.size, 0, none⟩) l.length l.length)) (upd ow id (some W.heap.size)) := by
  have hcl : c.length = l.length := by have := hr.length; omega
  have hn := r.fresh hid
  have hf : ∀ j e, find ((id, (⟨false, 0, .st [] :: l⟩ : Ent)) :: s.heap) j = some e → (j = id ∧ e = ⟨false, 0, .st [] :: l⟩) ∨ (j ≠ id ∧ find s.heap j = some e) := by
    intro j e h
    rw [find_cons] at h
    by_cases he : j = id
    · rw [if_pos he] at h; cases h; exact .inl ⟨he, rfl⟩
    · rw [if_neg he] at h; exact .inr ⟨he, h⟩
  have hlt : ∀ b, b < W.heap.size → (W.alloc (.cells c.toArray t)).heap[b]? = W.heap[b]? := fun b h => heap_alloc_lt W _ h
  have hok : ∀ b, OK C W s.heap ow b → OK C (W.alloc (.cells c.toArray t)) ((id, (⟨false, 0, .st [] :: l⟩ : Ent)) :: s.heap) (upd ow id (some W.heap.size)) b ∧ (W.alloc (.cells c.toArray t)).heap[b]? = W.heap[b]? := by
    rintro b ⟨⟨h0, h1⟩, h2⟩
    refine ⟨⟨⟨h0, by simp; omega⟩, ?_⟩, hlt b h1⟩
    rintro ⟨j, e, hj, hb⟩
    rcases hf j e hj with ⟨rfl, rfl⟩ | ⟨hne, hj⟩
    · simp [upd] at hb; omega
    · rw [upd, if_neg hne] at hb; exact h2 ⟨j, e, hj, hb⟩
  refine r.rebuild (m := s.nx) ⟨?_, ?_, ?_, ?_, ?_, r.mem.os, r.mem.tape, r.mem.output⟩ hok ?_ ?_ (fun i h => .inl h) ?_
  · intro j e hj
    rcases hf j e hj with ⟨rfl, rfl⟩ | ⟨hne, hj⟩
    · refine .inr (.inl ⟨rfl, rfl, .st [], l, none, rfl, by simp [decR], .inr ⟨W.heap.size, 0, l.length, c, by simp [upd], by simp [upd], ⟨t, ?_⟩, by omega, Nat.le_refl _, ?_⟩⟩)
      · exact heap_alloc_new W _
      · have e1 : (c.drop 0).take l.length = c := by rw [List.drop_zero, ← hcl, List.take_length]
        rw [e1]
        refine ⟨hcl, fun j p v hp hv => ⟨fun i c' h => (by cases h), fun _ => ?_⟩⟩
        obtain ⟨v', hv', h3⟩ := hr.get1 hp
        rw [hv] at hv'; cases hv'
        exact h3.mono hok
    · rw [upd, upd, if_neg hne, if_neg hne]
      exact (r.mem.ent j e hj).mono hok (fun b hb => hlt b (r.mem.lt j e b hj hb).1) (fun c hc => by rw [upd, if_neg (fun h => hid (by rw [← h]; exact r.idsR j e c hj hc))])
  · intro j j' e e' b hj hj' hb hb'
    rcases hf j e hj with ⟨rfl, rfl⟩ | ⟨hne, hj⟩
    · rcases hf j' e' hj' with ⟨rfl, rfl⟩ | ⟨hne', hj'⟩
      · rfl
      · rw [upd, if_neg hne'] at hb'; simp [upd] at hb; have := (r.mem.lt j' e' b hj' hb').1; omega
    · rw [upd, if_neg hne] at hb
      have hlt2 := (r.mem.lt j e b hj hb).1
      rcases hf j' e' hj' with ⟨rfl, rfl⟩ | ⟨hne', hj2'⟩
      · simp only [upd, if_pos rfl] at hb'; cases hb'; omega
      · rw [upd, if_neg hne'] at hb'; exact r.mem.inj j j' e e' b hj hj2' hb hb'
  · intro j e b hj hb
    rcases hf j e hj with ⟨rfl, rfl⟩ | ⟨hne, hj⟩
    · simp [upd] at hb; subst hb; exact ⟨by simp, .inr r.mem.size⟩
    · rw [upd, if_neg hne] at hb
      have := r.mem.lt j e b hj hb
      exact ⟨by simp; omega, this.2⟩
  · have := r.mem.size; simp; omega
  · intro b hb ho; rw [hlt b (by have := r.mem.size; omega)]; exact r.mem.frame b hb ho
  · intro j hj e he
    rcases hf j e he with ⟨rfl, rfl⟩ | ⟨hne, he⟩
    · exact (hid hj).elim
    · exact ⟨e, he, by rw [upd, if_neg hne], rfl⟩
  · intro j e he
    rcases hf j e he with ⟨rfl, rfl⟩ | ⟨hne, he⟩
    · exact .inr rfl
    · exact .inl (r.idsH j e he)
  · intro j e c' he hc'
    rcases hf j e he with ⟨rfl, rfl⟩ | ⟨hne, he⟩
    · obtain ⟨i, hi⟩ := (Ent.refs_R rfl rfl (rf := none) (by simp [decR])).1 hc'; cases hi
    · exact .inl (r.idsR j e c' he hc')

theorem snd_alcN (r : RelAt C n F s a W hdr ow) (hid : ¬ F id) {t : TypeId} {bb : Bool} {z : List PV} (ho : o.op = .alloc t) (hz : zeroB P bb t = some z) :
    Snd P C n F s a W id o (.ptr id 0 0) ((id, ⟨false, 0, .st [] :: z⟩) :: s.heap) := by
  obtain ⟨i, v, hi, hv, g1, g2, g3⟩ := zeroB_ok (W := W) (ok := OK C W s.heap ow) hz
  have r2 := r.allocN (id := id) (l := z) (c := v.cells.toList) hid t g1
  refine ⟨.pointer (some ⟨W.heap.size, 0, none⟩), _, _, _, .inl ?_, r2, repA_newPtr, fun j => men_ptr (i := 0) j⟩
  simp [execOp, ho, Instr.alloc, run_zero hi hv, newVar, newRow]

/-- Cells of a box that is kept as a row of rows, written. -/
theorem sttM_core (r : RelAt C n F s a W hdr ow) {x y : Operand} {x' y' : Opd} {t t1 t2 : TypeId} {k off : Nat} {u : AV} {p g g' : PV} {H1 : Heap} {e : Ent} {rest : List PV} {rf rf' : Option (Nat × Nat)} (ho : o.op = .store t x y) (hk : knownT P t = true) (hx : opd P t1 x = some x') (hy : opd P t2 y = some y')
    (hu : ev s.env x' = some (.ptr k 0 off)) (hv : ev s.env y' = some u) {qq : Bool} (hp : tov2 qq s.heap u = some (p, H1)) (hq : find H1 k = some e) (hf : e.fro = false) (hz : e.sz = 0) (hl : e.l = g :: rest) (hrf : decR g = some rf)
    (hpc : p.cells.length = szT P t) (hp0 : p.cells.length ≠ 0) (hoff : off + p.cells.length ≤ rest.length) (hg' : decR g' = some rf')
    (hsub : ∀ i c, rf' = some (i, c) → rf = some (i, c) ∧ ¬ (off ≤ i ∧ i < off + p.cells.length)) (hsup : ∀ i c, rf = some (i, c) → rf' = some (i, c) ∨ (off ≤ i ∧ i < off + p.cells.length)) :
    ∃ W' ow', (execOp a.eval o).run P W = .ok .skip W' ∧ RelAt C n F { s with heap := setIn H1 k ⟨false, 0, g' :: layP rest off p.cells⟩ } a W' hdr ow' := by
  have hvy := (opd_ok r hy hv).1
  obtain ⟨ow1, r1, hpv, hok1, _⟩ := tov2_ok r hvy hp
  have hux := (opd_ok r1 hx hu).1
  obtain ⟨p0, hp00⟩ : ∃ p, rest[off]? = some p := ⟨_, List.getElem?_eq_getElem (by omega)⟩
  obtain ⟨b, o', cap, c, w, h1, h2, h3, h4, h5, h6, h7, h8, h9⟩ := nest_at r1 hux hq hz hf hl hrf hp00
  have hpC := hpv.toC
  obtain ⟨hp1, hp2⟩ := hpC.cells
  have hpl : (a.eval y).cells.toList.length = p.cells.length := by
    have := hp1.length; rw [Nat.mul_one] at this; exact this
  have hrun : (storeVar t ⟨b, o' + off, none⟩ (a.eval y)).run P W = .ok () (W.setCells b (o' + off) (a.eval y).cells.toList) := by
    have hst := run_storeCells_cells (P := P) b (o' + off) (a.eval y).cells.toList 0 W
      (by intro j hj; rw [cell_row (rowO_row h3), List.getElem?_eq_getElem (by omega)]; rfl)
      (by intro j hj; exact rowO_frozen h3 _) (hp1.oneCell hp2)
    rw [Nat.add_zero] at hst
    have hsz2 : (a.eval y).cells.size = szT P t := by rw [← Array.length_toList, hpl, hpc]
    simp [storeVar, run_sizeOf hk, hsz2, hst]
  have hexec : (execOp a.eval o).run P W = .ok .skip (W.setCells b (o' + off) (a.eval y).cells.toList) := by
    simp [execOp, ho, Instr.storeAt, Instr.sureAddr, h6, hrun]
  obtain ⟨k1, k2, k3, k4, k5, k6⟩ := setCells_row b (a.eval y).cells.toList (o' + off) c W h3 (by omega)
  have hll : (layP rest off p.cells).length = rest.length := layP_length hoff
  have r2 := r1.writeE (e' := ⟨false, 0, g' :: layP rest off p.cells⟩) hq h1 hz.symm k2 k3 k4 k5 k6 (.inr (.inl ⟨rfl, rfl, g', layP rest off p.cells, rf', rfl, hg', .inr ⟨b, o', cap, lay c (o' + off) (a.eval y).cells.toList, rfl, by rw [hll]; exact h2, k1, by rw [lay_length (by omega)]; exact h4, by rw [hll]; exact h5, ?_⟩⟩))
    (by
      intro c' hc'
      obtain ⟨i, hi⟩ := (Ent.refs_R rfl rfl hg').1 hc'
      exact r1.idsR k e c' hq ((Ent.refs_R hz hl hrf).2 ⟨i, (hsub _ _ hi).1⟩))
  · exact ⟨_, _, hexec, r2⟩
  · rw [hll]
    refine ⟨by rw [List.length_take, List.length_drop, lay_length (by omega)]; omega, ?_⟩
    intro j p' v' hj hv'
    have hjl : j < rest.length := by rw [← hll]; exact (List.getElem?_eq_some_iff.1 hj).1
    rw [List.getElem?_take, if_pos hjl, List.getElem?_drop, lay_get (by omega)] at hv'
    rw [layP_get hoff] at hj
    have hmono : ∀ {q : PV} {us : List Value}, RepC W (OK C W H1 ow1) q us → RepC (W.setCells b (o' + off) (a.eval y).cells.toList) (OK C W H1 ow1) q us := fun h => h.mono fun b' hb' => ⟨hb', k2 b' (by rintro rfl; exact hb'.2 ⟨k, e, hq, h1⟩)⟩
    by_cases hin : off ≤ j ∧ j < off + p.cells.length
    · rw [if_neg (by omega), if_pos hin.2] at hj
      rw [if_neg (by omega), if_pos (by omega), show o' + j - (o' + off) = j - off by omega] at hv'
      refine ⟨fun i c1 h h' => absurd hin (by rw [h']; exact (hsub i c1 h).2), fun _ => ?_⟩
      obtain ⟨v2, hv2, h10⟩ := hp1.get1 hj
      rw [hv'] at hv2; cases hv2
      exact hmono h10
    · have hj' : rest[j]? = some p' := by
        by_cases q : j < off
        · rwa [if_pos q] at hj
        · rwa [if_neg q, if_neg (fun q2 => hin ⟨by omega, q2⟩)] at hj
      have hv2 : ((c.drop o').take rest.length)[j]? = some v' := by
        rw [List.getElem?_take, if_pos hjl, List.getElem?_drop]
        by_cases q : o' + j < o' + off
        · rwa [if_pos q] at hv'
        · rwa [if_neg q, if_neg (fun q2 => hin ⟨by omega, by omega⟩)] at hv'
      have h11 := h8.2 j p' v' hj' hv2
      refine ⟨fun i c1 h h' => h11.1 i c1 (hsub i c1 h).1 h', fun h => hmono (h11.2 fun i c1 h' => ?_)⟩
      rcases hsup i c1 h' with q | q
      · exact h i c1 q
      · rintro rfl; exact hin q

/-- The row in a row of rows is written no more. -/
theorem derefN_ok (r : RelAt C n F s a W hdr ow) {k : Nat} {e : Ent} {rest' : List PV} {H' : Heap} (hq : find s.heap k = some e) (hz : e.sz = 0) (hf : e.fro = false) (h : derefN s.heap k e = some (rest', H')) :
    ∃ ow', RelAt C n F { s with heap := H' } a W hdr ow' ∧ ∃ e' g, find H' k = some e' ∧ e'.sz = 0 ∧ e'.fro = false ∧ e'.l = g :: rest' ∧ decR g = some none := by
  unfold derefN at h
  split at h
  · rename_i g rest hl
    split at h
    · rename_i hrf
      cases h
      exact ⟨ow, r, e, g, hq, hz, hf, hl, hrf⟩
    · rename_i j c hrf
      split at h
      · rename_i p H1 htov
        split at h
        · rename_i hc
          cases h
          obtain ⟨hck, hj⟩ := hc
          obtain ⟨ow1, r1, hpv, hok1, _⟩ := tov_ok r (x := .h c) (v := hdr c) (by simp [RepA]) htov
          have hH : find H1 k = find s.heap k ∧ p.isSt = false := by
            simp only [tov] at htov
            split at htov
            · split at htov
              · cases htov
              · split at htov
                · cases htov; exact ⟨rfl, by simp⟩
                · split at htov
                  · cases htov
                  · cases htov; exact ⟨by rw [find_setIn, if_neg (Ne.symm hck)], by simp⟩
            · cases htov
          have hq1 : find H1 k = some e := hH.1.trans hq
          obtain ⟨_, _, g0, rest0, rf0, hl0, hrf0, hN⟩ := (r1.mem.ent k e hq1).nest hz hf hl hrf
          rw [hl] at hl0
          injection hl0 with e1 e2
          subst e1 e2
          rw [hrf] at hrf0; cases hrf0
          rcases hN with ⟨hN, _⟩ | ⟨b, off, cap, cc, h1, h2, h3, h4, h5, h6⟩
          · rw [hN] at hj; simp at hj
          have r2 := r1.writeE (e' := ⟨false, 0, .st [] :: rest.set j p⟩) (W' := W) hq1 h1 hz.symm (fun _ _ => rfl) rfl rfl rfl (.refl _) (.inr (.inl ⟨rfl, rfl, .st [], rest.set j p, none, rfl, by simp [decR], .inr ⟨b, off, cap, cc, rfl, by rw [List.length_set]; exact h2, h3, h4, by rw [List.length_set]; exact h5, ?_⟩⟩))
            (by intro c' hc'; obtain ⟨i, hi⟩ := (Ent.refs_R rfl rfl (rf := none) (by simp [decR])).1 hc'; cases hi)
          · refine ⟨_, r2, ⟨false, 0, .st [] :: rest.set j p⟩, .st [], ?_, rfl, rfl, rfl, by simp [decR]⟩
            rw [find_setIn, if_pos rfl, hq1]; rfl
          · rw [List.length_set]
            refine ⟨by simpa using h6.1, fun i p' v' hi hv' => ⟨fun _ _ h => (by cases h), fun _ => ?_⟩⟩
            have hil : i < rest.length := by have := (List.getElem?_eq_some_iff.1 hi).1; simpa using this
            by_cases hij : i = j
            · subst hij
              rw [List.getElem?_set_self hil] at hi
              cases hi
              obtain ⟨p0, hp0⟩ : ∃ p, rest[i]? = some p := ⟨_, List.getElem?_eq_getElem hil⟩
              have := ((h6.2 i p0 v' hp0 hv').1 i c rfl rfl).1
              subst this
              have := hpv.toC
              obtain ⟨_, e3, e4⟩ := hpv.oneCell hH.2
              rw [e3] at this
              exact this
            · rw [List.getElem?_set_ne (Ne.symm hij)] at hi
              exact (h6.2 i p' v' hi hv').2 fun i' c' h => by simp at h; rw [← h.1]; exact hij
        · cases h
      · cases h
    · cases h
  · cases h

theorem RepC.denl {ok : Nat → Prop} {p : PV} {vs : List Value} (h : RepC W ok p vs) : RepC W ok (Go.AM.denl p) vs := by
  cases p with
  | nl => cases h; exact .nil
  | _ => exact h
theorem denl_len (p : PV) : (Go.AM.denl p).cells.length = p.cells.length := by cases p <;> rfl
theorem RepL.denl {ok : Nat → Prop} {sz : Nat} : ∀ {l : List PV} {vs : List Value}, RepL W ok sz l vs → RepL W ok sz (l.map Go.AM.denl) vs
  | _, _, .nil => .nil
  | _, _, .cons g1 g2 g3 => .cons g1 g2.denl g3.denl
theorem denl_isSt (p : PV) : (Go.AM.denl p).isSt = p.isSt := by cases p <;> rfl
theorem Snd.denl {cs : List PV} {H' : Heap} (h : Snd P C n F s a W id o (.v (.st cs)) H') : Snd P C n F s a W id o (.v (.st (cs.map Go.AM.denl))) H' := by
  obtain ⟨v, W', hdr', ow', hrun, hrel, hrep, hmen⟩ := h
  refine ⟨v, W', hdr', ow', hrun, hrel, ?_, fun i h => by simp [AV.men] at h⟩
  simp only [RepA] at hrep ⊢
  obtain ⟨vs, e1, r1, hs⟩ := hrep.stInv
  rw [e1]
  refine RepV.st r1.denl fun p hp => ?_
  obtain ⟨q, hq, rfl⟩ := List.mem_map.1 hp
  rw [denl_isSt]; exact hs q hq

theorem snd_ldS (r : RelAt C n F s a W hdr ow) {x : Operand} {x' : Opd} {t t1 : TypeId} {k i off : Nat} {e : Ent} {qq : Bool} {u : AV} {H' : Heap} (ho : o.op = .load t x) (hk : knownT P t = true) (hag : aggT P t = true) (hx : opd P t1 x = some x')
    (hu : ev s.env x' = some (.ptr k i off)) (hq : find s.heap k = some e) (hz : e.sz = 0) (hf : e.fro = false) (h : ldS qq s.heap k e (szT P t) i off = some (u, H')) : Snd P C n F s a W id o u H' := by
  unfold ldS at h
  split at h
  · rename_i hc
    obtain ⟨_, rfl, hs0⟩ := hc
    split at h
    · rename_i rest' H1 hd
      split at h
      · rename_i hc2
        cases h
        obtain ⟨ow', r1, e', g, h1, h2, h3, h4, h5⟩ := derefN_ok r hq hz hf hd
        have hux := (opd_ok r1 hx hu).1
        obtain ⟨p0, hp0⟩ : ∃ p, rest'[off]? = some p := ⟨_, List.getElem?_eq_getElem (by omega)⟩
        obtain ⟨b, o', cap, c, w, k1, k2, k3, k4, k5, k6, k7, k8, k9⟩ := nest_at r1 hux h1 h2 h3 h4 h5 hp0
        have hR : RepL W (OK C W H' ow') 1 rest' ((c.drop o').take rest'.length) := RepL.of1 k8.1 fun j p v hp hv => (k8.2 j p v hp hv).2 fun _ _ h => by cases h
        exact Snd.denl (snd_ld r1 (cs := rest') (m := off) ho hk k6 (rowO_row k3) hR (by omega) (noSt_all hc2.2) (by rw [hag]; simp only [cellRd, if_true]; rw [if_pos hc2.1]))
      · cases h
    · cases h
  · cases h

theorem snd_ldSR (r : RelAt C n F s a W hdr ow) {x : Operand} {x' : Opd} {t t1 : TypeId} {k i off : Nat} {e : Ent} {qq : Bool} {u : AV} {H' : Heap} (ho : o.op = .load t x) (hk : knownT P t = true) (hag : aggT P t = true) (hx : opd P t1 x = some x')
    (hu : ev s.env x' = some (.ptr k i off)) (hq : find s.heap k = some e) (hz : e.sz = 0) (hf : e.fro = false) (h : ldSR qq s.heap k e (szT P t) i off = some (u, H')) : Snd P C n F s a W id o u H' := by
  unfold ldSR at h
  split at h
  · rename_i hc
    obtain ⟨rfl, hs0⟩ := hc
    split at h
    · rename_i rest' H1 hd
      have hd : derefN s.heap k e = some (rest', H1) := by
        split at hd
        · unfold derefQ at hd
          unfold derefN
          split at hd
          · rename_i g rest hl
            split at hd
            · rename_i hg; simp only [hg]; exact hd
            · cases hd
          · cases hd
        · exact hd
      split at h
      · rename_i hc2
        cases h
        obtain ⟨ow', r1, e', g, h1, h2, h3, h4, h5⟩ := derefN_ok r hq hz hf hd
        have hux := (opd_ok r1 hx hu).1
        obtain ⟨p0, hp0⟩ : ∃ p, rest'[off]? = some p := ⟨_, List.getElem?_eq_getElem (by omega)⟩
        obtain ⟨b, o', cap, c, w, k1, k2, k3, k4, k5, k6, k7, k8, k9⟩ := nest_at r1 hux h1 h2 h3 h4 h5 hp0
        have hR : RepL W (OK C W H' ow') 1 rest' ((c.drop o').take rest'.length) := RepL.of1 k8.1 fun j p v hp hv => (k8.2 j p v hp hv).2 fun _ _ h => by cases h
        exact snd_ld r1 (cs := rest') (m := off) ho hk k6 (rowO_row k3) hR (by omega) (noSt_all hc2.2) (by rw [hag]; simp only [cellRd, if_true]; rw [if_pos hc2.1])
      · cases h
    · cases h
  · cases h

/-- A copy that nobody writes: of what comes to an owned row, the row is told as a value. -/
theorem snd_frz {e : Ent} (hid : ¬ F id) (r : RelAt C n F s a W hdr ow) (hz : e.sz ≠ 0) (h : Snd P C n F s a W id o (.h id) ((id, e) :: s.heap)) : Snd P C n F s a W id o (.v (.sl e.sz e.l)) s.heap := by
  obtain ⟨v, W', hdr', ow', hrun, hrel, hrep, hmen⟩ := h
  have hn := r.fresh hid
  have htov : ∃ H', tov false ((id, e) :: s.heap) (.h id) = some (.sl e.sz e.l, H') ∧ ∀ k, k ≠ id → find H' k = find s.heap k := by
    simp only [tov, find_cons, if_true, if_neg hz]
    by_cases hf : e.fro = true
    · rw [if_pos hf]; exact ⟨_, rfl, fun k hk => by rw [find_cons, if_neg hk]⟩
    · rw [if_neg hf, if_neg (by simp)]; exact ⟨_, rfl, fun k hk => by rw [find_setIn, if_neg hk, find_cons, if_neg hk]⟩
  obtain ⟨H', ht, hH'⟩ := htov
  obtain ⟨ow2, r2, hv, _, _⟩ := tov_ok hrel hrep ht
  have hf : ∀ k, find s.heap k = find (strike H' id) k := by
    intro k
    rw [find_strike]
    by_cases hk : k = id
    · rw [if_pos hk, hk]; exact hn
    · rw [if_neg hk, hH' k hk]
  have r3 := (r2.drop id).congr (E := s.env) (H := s.heap) (m := s.nx) (fun _ _ h => h) hf
  refine ⟨v, W', hdr', ow2, hrun, r3, ?_, by simp [AV.men]⟩
  simp only [RepA]
  refine hv.mono fun b hb => ⟨⟨hb.1, ?_⟩, rfl⟩
  rintro ⟨k, e', hk, ho⟩
  rw [hf k, find_strike] at hk
  by_cases q : k = id
  · rw [if_pos q] at hk; cases hk
  · rw [if_neg q] at hk; exact hb.2 ⟨k, e', hk, ho⟩

theorem tov_true {H H' : Heap} {u : AV} {p : PV} (h : tov true H u = some (p, H')) : H' = H := by
  cases u with
  | v q => simp only [tov, Option.some.injEq, Prod.mk.injEq] at h; exact h.2.symm
  | h k =>
    simp only [tov] at h
    split at h
    · split at h
      · cases h
      · split at h
        · cases h; rfl
        · simp at h
    · cases h
  | fn f l => cases l with
    | nil => simp only [tov, Option.some.injEq, Prod.mk.injEq] at h; exact h.2.symm
    | cons => simp [tov] at h
  | _ => simp [tov] at h
theorem buildL_true {E : Env} {sz : Nat} : ∀ (ps : List (Nat × Opd)) (cs cs' : List PV) (H H' : Heap), buildL true E sz cs H ps = some (cs', H') → H' = H
  | [], cs, cs', H, H', h => by simp only [buildL, Option.some.injEq, Prod.mk.injEq] at h; exact h.2.symm
  | (i, x) :: ps, cs, cs', H, H', h => by
    simp only [buildL] at h
    split at h
    · rename_i p H1 hp
      split at h
      · obtain ⟨u, _, hu⟩ := Option.bind_eq_some_iff.1 hp
        rw [buildL_true ps _ _ _ _ h, tov_true hu]
      · cases h
    · cases h
end
end Go.AM

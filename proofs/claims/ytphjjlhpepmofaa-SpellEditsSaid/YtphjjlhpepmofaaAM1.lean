/- The abstract values of the walk, and how a world of the model bears them. -/
import Derived.Calls
import Derived.Tactics
import Derived.Deep.AppendSrc
import Derived.Below
import Derived.Laws.Rows
set_option linter.all false
namespace Go.AM
open Go

/-- A value without memory: a scalar, a row of values, the cells of a struct or an array. -/
inductive PV where
  | w (v : Value)
  | sl (sz : Nat) (l : List PV)
  | st (cs : List PV)
  deriving Inhabited

@[simp] def PV.isSt : PV → Bool | .st _ => true | _ => false
def PV.cells : PV → List PV | .st cs => cs | p => [p]
@[simp] theorem PV.cells_st (cs : List PV) : (PV.st cs).cells = cs := rfl
@[simp] theorem PV.cells_w (v : Value) : (PV.w v).cells = [.w v] := rfl
@[simp] theorem PV.cells_sl (sz : Nat) (l : List PV) : (PV.sl sz l).cells = [.sl sz l] := rfl

/-- A scalar: a value of one cell that names no memory. -/
def scal : Value → Bool
  | .bool _ | .int .. | .string _ | .nilIface | .nilFunc | .pointer none | .map none => true
  | .func (.func _) a b => a.size == 0 && b.size == 0
  | .iface _ v => scal v
  | _ => false

/-- The block b holds the cells c. -/
def World.row (W : World) (b : Nat) (c : List Value) : Prop := ∃ t fr, W.heap[b]? = some (.cells c.toArray t fr)
def World.rowO (W : World) (b : Nat) (c : List Value) : Prop := ∃ t, W.heap[b]? = some (.cells c.toArray t (0, 0))

mutual
/-- The cells vs bear the value p; its rows lie in blocks that are 'ok'. -/
inductive RepC (W : World) (ok : Nat → Prop) : PV → List Value → Prop
  | w {v : Value} : scal v = true → RepC W ok (.w v) [v]
  | nil {sz : Nat} {ao : Option Addr} : RepC W ok (.sl sz []) [.slice ao 0 0]
  | sl {sz b off cap : Nat} {l : List PV} {c : List Value} : ok b → World.row W b c → off + cap * sz ≤ c.length → l.length ≤ cap →
      RepL W ok sz l ((c.drop off).take (l.length * sz)) → RepC W ok (.sl sz l) [.slice (some ⟨b, off, none⟩) l.length cap]
  | st {cs : List PV} {vs : List Value} : (∀ p ∈ cs, p.isSt = false) → RepL W ok 1 cs vs → RepC W ok (.st cs) vs
/-- The cells vs bear the values l, each in sz cells. -/
inductive RepL (W : World) (ok : Nat → Prop) : Nat → List PV → List Value → Prop
  | nil {sz : Nat} : RepL W ok sz [] []
  | cons {sz : Nat} {p : PV} {l : List PV} {vs ws : List Value} : vs.length = sz → RepC W ok p vs → RepL W ok sz l ws → RepL W ok sz (p :: l) (vs ++ ws)
end

/-- A value as an operand has it. -/
def RepV (W : World) (ok : Nat → Prop) (p : PV) (v : Value) : Prop :=
  if p.isSt = true then ∃ vs : List Value, v = .agg vs.toArray ∧ RepC W ok p vs else RepC W ok p [v]

section mono
variable {W W' : World} {ok ok' : Nat → Prop}

theorem World.row_congr {b : Nat} {c : List Value} (h : W'.heap[b]? = W.heap[b]?) (r : World.row W b c) : World.row W' b c := by
  obtain ⟨t, fr, r⟩ := r; exact ⟨t, fr, h.trans r⟩

theorem RepC.mono (h : ∀ b, ok b → ok' b ∧ W'.heap[b]? = W.heap[b]?) {p : PV} {vs : List Value} (r : RepC W ok p vs) : RepC W' ok' p vs := by
  refine RepC.rec (motive_1 := fun p vs _ => RepC W' ok' p vs) (motive_2 := fun sz l vs _ => RepL W' ok' sz l vs) ?_ ?_ ?_ ?_ ?_ ?_ r
  · intro v h; exact .w h
  · intro sz ao; exact .nil
  · intro sz b off cap l c hb hr h1 h2 _ ih; exact .sl (h b hb).1 (World.row_congr (h b hb).2 hr) h1 h2 ih
  · intro cs vs h _ ih; exact .st h ih
  · intro sz; exact .nil
  · intro sz p l vs ws h1 _ _ ih1 ih2; exact .cons h1 ih1 ih2

theorem RepL.mono (h : ∀ b, ok b → ok' b ∧ W'.heap[b]? = W.heap[b]?) {sz : Nat} {l : List PV} {vs : List Value} (r : RepL W ok sz l vs) : RepL W' ok' sz l vs := by
  refine RepL.rec (motive_1 := fun p vs _ => RepC W' ok' p vs) (motive_2 := fun sz l vs _ => RepL W' ok' sz l vs) ?_ ?_ ?_ ?_ ?_ ?_ r
  · intro v h; exact .w h
  · intro sz ao; exact .nil
  · intro sz b off cap l c hb hr h1 h2 _ ih; exact .sl (h b hb).1 (World.row_congr (h b hb).2 hr) h1 h2 ih
  · intro cs vs h _ ih; exact .st h ih
  · intro sz; exact .nil
  · intro sz p l vs ws h1 _ _ ih1 ih2; exact .cons h1 ih1 ih2

theorem RepV.mono (h : ∀ b, ok b → ok' b ∧ W'.heap[b]? = W.heap[b]?) {p : PV} {v : Value} (r : RepV W ok p v) : RepV W' ok' p v := by
  unfold RepV at *
  split
  · rename_i hp; rw [if_pos hp] at r; obtain ⟨vs, e, r⟩ := r; exact ⟨vs, e, r.mono h⟩
  · rename_i hp; rw [if_neg hp] at r; exact r.mono h
end mono

section rows
variable {W : World} {ok : Nat → Prop}

theorem RepL.length {sz : Nat} {l : List PV} {vs : List Value} (r : RepL W ok sz l vs) : vs.length = l.length * sz := by
  induction l generalizing vs with
  | nil => cases r; simp
  | cons p l ih => cases r with | cons h1 _ r => simp [h1, ih r, Nat.add_mul, Nat.add_comm]

theorem RepL.get {sz : Nat} {l : List PV} {vs : List Value} (r : RepL W ok sz l vs) {i : Nat} {p : PV} (h : l[i]? = some p) : RepC W ok p ((vs.drop (i * sz)).take sz) ∧ (i + 1) * sz ≤ vs.length := by
  induction l generalizing vs i with
  | nil => simp at h
  | cons q l ih =>
    cases r with
    | cons h1 r0 r =>
      rename_i ws us
      cases i with
      | zero => simp at h; subst h; refine ⟨?_, by simp [h1]⟩; subst h1; simpa using r0
      | succ i =>
        simp at h
        obtain ⟨a, b⟩ := ih r h
        have e : (i + 1) * sz = ws.length + i * sz := by rw [h1, Nat.add_mul]; omega
        refine ⟨?_, by simp [Nat.add_mul, h1] at *; omega⟩
        rw [e, List.drop_length_add_append]; simpa using a

theorem RepL.set {sz : Nat} {l : List PV} {vs : List Value} (r : RepL W ok sz l vs) {i : Nat} {p : PV} {us : List Value} (h : i < l.length) (hp : RepC W ok p us) (hu : us.length = sz) :
    RepL W ok sz (l.set i p) (vs.take (i * sz) ++ us ++ vs.drop ((i + 1) * sz)) := by
  induction l generalizing vs i with
  | nil => simp at h
  | cons q l ih =>
    cases r with
    | cons h1 r0 r =>
      rename_i ws xs
      cases i with
      | zero =>
        have e : (0 + 1) * sz = ws.length := by omega
        simp only [List.set_cons_zero, e, List.drop_left]
        simpa using RepL.cons hu hp r
      | succ i =>
        have e : (i + 1) * sz = ws.length + i * sz := by rw [h1, Nat.add_mul]; omega
        have e2 : (i + 1 + 1) * sz = ws.length + (i + 1) * sz := by rw [h1, Nat.add_mul (i+1)]; omega
        rw [List.set_cons_succ, e, e2, List.take_length_add_append, List.drop_length_add_append]
        simpa using RepL.cons h1 r0 (ih r (by simpa using h))

theorem RepL.append {sz : Nat} {l l' : List PV} {vs vs' : List Value} (r : RepL W ok sz l vs) (r' : RepL W ok sz l' vs') : RepL W ok sz (l ++ l') (vs ++ vs') := by
  induction l generalizing vs with
  | nil => cases r; simpa using r'
  | cons p l ih => cases r with | cons h1 r0 r => rw [List.append_assoc]; exact .cons h1 r0 (ih r)

theorem RepL.take {sz : Nat} {l : List PV} {vs : List Value} (r : RepL W ok sz l vs) (n : Nat) : RepL W ok sz (l.take n) (vs.take (n * sz)) := by
  induction l generalizing vs n with
  | nil => cases r; simpa using RepL.nil
  | cons p l ih =>
    cases r with
    | cons h1 r0 r =>
      rename_i ws xs
      cases n with
      | zero => simpa using RepL.nil
      | succ n =>
        have e : (n + 1) * sz = ws.length + n * sz := by rw [h1, Nat.add_mul]; omega
        rw [e, List.take_length_add_append]; simpa using RepL.cons h1 r0 (ih r n)

theorem RepL.drop {sz : Nat} {l : List PV} {vs : List Value} (r : RepL W ok sz l vs) (n : Nat) : RepL W ok sz (l.drop n) (vs.drop (n * sz)) := by
  induction l generalizing vs n with
  | nil => cases r; simpa using RepL.nil
  | cons p l ih =>
    cases r with
    | cons h1 r0 r =>
      rename_i ws xs
      cases n with
      | zero => simpa using RepL.cons h1 r0 r
      | succ n =>
        have e : (n + 1) * sz = ws.length + n * sz := by rw [h1, Nat.add_mul]; omega
        rw [e, List.drop_length_add_append]; simpa using ih r n

theorem RepL.one {p : PV} {us : List Value} (h : RepC W ok p us) : RepL W ok us.length [p] us := by
  simpa using RepL.cons rfl h .nil

theorem RepL.replicate {sz : Nat} {p : PV} {us : List Value} (h : RepC W ok p us) (hu : us.length = sz) (n : Nat) : RepL W ok sz (List.replicate n p) (List.replicate n us).flatten := by
  induction n with
  | zero => exact .nil
  | succ n ih => rw [List.replicate_succ, List.replicate_succ, List.flatten_cons]; exact .cons hu h ih

end rows

/-! ### The finite maps of the walk -/
def find {α : Type} : List (Nat × α) → Nat → Option α
  | [], _ => none
  | (k, v) :: l, t => if t = k then some v else find l t

theorem find_cons {α : Type} (k : Nat) (v : α) (l : List (Nat × α)) (t : Nat) : find ((k, v) :: l) t = if t = k then some v else find l t := rfl
theorem find_nil {α : Type} (t : Nat) : find ([] : List (Nat × α)) t = none := rfl

/-- Strike a key. -/
def strike {α : Type} (l : List (Nat × α)) (t : Nat) : List (Nat × α) := l.filter fun p => !(p.1 == t)

theorem find_strike {α : Type} (l : List (Nat × α)) (t u : Nat) : find (strike l t) u = if u = t then none else find l u := by
  induction l with
  | nil => simp [strike, find]
  | cons p l ih =>
    obtain ⟨k, v⟩ := p
    have hs : strike ((k, v) :: l) t = if k = t then strike l t else (k, v) :: strike l t := by
      unfold strike; rw [List.filter_cons]; by_cases h : k = t <;> simp [h]
    rw [hs, find_cons]
    by_cases h : k = t
    · subst h; simp only [if_true, ih]; by_cases h2 : u = k <;> simp [h2]
    · simp only [if_neg h, find_cons, ih]
      by_cases h2 : u = k
      · subst h2; simp [h]
      · simp [h2]

theorem strike_nil {α : Type} (t : Nat) : strike ([] : List (Nat × α)) t = [] := rfl
theorem strike_cons {α : Type} (k : Nat) (v : α) (l : List (Nat × α)) (t : Nat) : strike ((k, v) :: l) t = if k = t then strike l t else (k, v) :: strike l t := by
  unfold strike; rw [List.filter_cons]; by_cases h : k = t <;> simp [h]

/-- Put a key in the place where it lies, or in front. -/
def setIn {α : Type} (l : List (Nat × α)) (t : Nat) (v : α) : List (Nat × α) := l.map fun p => if p.1 = t then (t, v) else p

theorem find_setIn {α : Type} (l : List (Nat × α)) (t : Nat) (v : α) (u : Nat) : find (setIn l t v) u = if u = t then (find l t).map (fun _ => v) else find l u := by
  induction l with
  | nil => simp [setIn, find]
  | cons p l ih =>
    obtain ⟨k, x⟩ := p
    have hs : setIn ((k, x) :: l) t v = (if k = t then (t, v) else (k, x)) :: setIn l t v := rfl
    rw [hs]
    by_cases h : k = t
    · subst h
      simp only [if_true, find_cons, ih]
      by_cases h2 : u = k <;> simp [h2]
    · simp only [if_neg h, find_cons, ih]
      by_cases h2 : u = k
      · subst h2; simp [h]
      · by_cases h3 : u = t
        · subst h3; simp [h2]
        · simp [h2, h3]

end Go.AM

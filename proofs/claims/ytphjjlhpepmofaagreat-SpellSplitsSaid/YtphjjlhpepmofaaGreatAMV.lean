/- Rows of rows that are all owned: their rows as a tail of the heap. -/
import Derived.Test.YtphjjlhpepmofaaGreatAMZ
set_option linter.all false
namespace Go.AM
open Go
variable [dr : Inhabited Prop]

/-- Rows numbered from c0 on; none: given up. -/
def matO (c0 sz : Nat) : List (Option (List PV)) → Heap
  | [] => []
  | some l :: L => (c0, ⟨false, sz, l⟩) :: matO (c0 + 1) sz L
  | none :: L => matO (c0 + 1) sz L

theorem find_mat {sz : Nat} : ∀ (L : List (Option (List PV))) (c0 id : Nat), find (matO c0 sz L) id = if c0 ≤ id then (match L[id - c0]? with | some (some l) => some ⟨false, sz, l⟩ | _ => none) else none
  | [], c0, id => by simp [matO, find_nil]
  | some l :: L, c0, id => by
    simp only [matO, find_cons, find_mat L (c0 + 1) id]
    by_cases h : id = c0
    · subst h; simp
    · by_cases h2 : c0 ≤ id
      · obtain ⟨k, rfl⟩ : ∃ k, id = c0 + 1 + k := ⟨id - (c0 + 1), by omega⟩
        rw [if_neg h, if_pos (by omega), if_pos h2, show c0 + 1 + k - (c0 + 1) = k by omega, show c0 + 1 + k - c0 = k + 1 by omega, List.getElem?_cons_succ]
      · rw [if_neg h, if_neg (by omega), if_neg h2]
  | none :: L, c0, id => by
    simp only [matO, find_mat L (c0 + 1) id]
    by_cases h : id = c0
    · subst h; rw [if_neg (by omega), if_pos (by omega)]; simp
    · by_cases h2 : c0 ≤ id
      · obtain ⟨k, rfl⟩ : ∃ k, id = c0 + 1 + k := ⟨id - (c0 + 1), by omega⟩
        rw [if_pos (by omega), if_pos h2, show c0 + 1 + k - (c0 + 1) = k by omega, show c0 + 1 + k - c0 = k + 1 by omega, List.getElem?_cons_succ]
      · rw [if_neg (by omega), if_neg h2]

theorem find_mat_lt {c0 sz id : Nat} {L : List (Option (List PV))} (h : id < c0) : find (matO c0 sz L) id = none := by rw [find_mat, if_neg (by omega)]
theorem find_mat_far {c0 sz id : Nat} {L : List (Option (List PV))} (h : c0 + 3000 ≤ id) (hL : L.length ≤ 3000) : find (matO c0 sz L) id = none := by
  rw [find_mat, if_pos (by omega), List.getElem?_eq_none (by omega)]
@[simp] theorem find_mat_at (c0 sz a : Nat) (L : List (Option (List PV))) : find (matO c0 sz L) (c0 + a) = match L[a]? with | some (some l) => some ⟨false, sz, l⟩ | _ => none := by
  rw [find_mat, if_pos (by omega), Nat.add_sub_cancel_left]

theorem strike_mat {sz : Nat} : ∀ (L : List (Option (List PV))) (c0 id : Nat), strike (matO c0 sz L) id = matO c0 sz (if c0 ≤ id then L.set (id - c0) none else L)
  | [], c0, id => by simp [matO, strike]
  | x :: L, c0, id => by
    by_cases h : id = c0
    · subst h
      have e : strike (matO (id + 1) sz L) id = matO (id + 1) sz L := by rw [strike_mat L (id + 1) id, if_neg (by omega)]
      cases x with
      | some l => simp [matO, strike_cons, e]
      | none => simp [matO, e]
    · by_cases h2 : c0 ≤ id
      · obtain ⟨k, rfl⟩ : ∃ k, id = c0 + 1 + k := ⟨id - (c0 + 1), by omega⟩
        have e : strike (matO (c0 + 1) sz L) (c0 + 1 + k) = matO (c0 + 1) sz (L.set k none) := by rw [strike_mat L (c0 + 1) _, if_pos (by omega), Nat.add_sub_cancel_left]
        rw [if_pos h2, show c0 + 1 + k - c0 = k + 1 by omega, List.set_cons_succ]
        cases x with
        | some l => simp only [matO, strike_cons]; rw [if_neg (by omega), e]
        | none => simp only [matO]; exact e
      · have e : strike (matO (c0 + 1) sz L) id = matO (c0 + 1) sz L := by rw [strike_mat L (c0 + 1) id, if_neg (by omega)]
        rw [if_neg h2]
        cases x with
        | some l => simp only [matO, strike_cons]; rw [if_neg (by omega), e]
        | none => simp only [matO]; exact e

theorem strike_mat_lt {c0 sz id : Nat} {L : List (Option (List PV))} (h : id < c0) : strike (matO c0 sz L) id = matO c0 sz L := by rw [strike_mat, if_neg (by omega)]
theorem strike_mat_far {c0 sz id : Nat} {L : List (Option (List PV))} (h : c0 + 3000 ≤ id) (hL : L.length ≤ 3000) : strike (matO c0 sz L) id = matO c0 sz L := by
  rw [strike_mat, if_pos (by omega), List.set_eq_of_length_le (by omega)]
@[simp] theorem strike_mat_at (c0 sz a : Nat) (L : List (Option (List PV))) : strike (matO c0 sz L) (c0 + a) = matO c0 sz (L.set a none) := by rw [strike_mat, if_pos (by omega), Nat.add_sub_cancel_left]

theorem setIn_mat {sz : Nat} {l' : List PV} : ∀ (L : List (Option (List PV))) (c0 id : Nat), setIn (matO c0 sz L) id ⟨false, sz, l'⟩ = matO c0 sz (if c0 ≤ id ∧ (L[id - c0]?).join.isSome = true then L.set (id - c0) (some l') else L)
  | [], c0, id => by simp [matO, setIn]
  | x :: L, c0, id => by
    by_cases h : id = c0
    · subst h
      have e : setIn (matO (id + 1) sz L) id ⟨false, sz, l'⟩ = matO (id + 1) sz L := by rw [setIn_mat L (id + 1) id, if_neg (by omega)]
      cases x with
      | some l => simp [matO, setIn_cons, e]
      | none => simp [matO, e]
    · by_cases h2 : c0 ≤ id
      · obtain ⟨k, rfl⟩ : ∃ k, id = c0 + 1 + k := ⟨id - (c0 + 1), by omega⟩
        have e : setIn (matO (c0 + 1) sz L) (c0 + 1 + k) ⟨false, sz, l'⟩ = matO (c0 + 1) sz (if (L[k]?).join.isSome = true then L.set k (some l') else L) := by
          rw [setIn_mat L (c0 + 1) _, Nat.add_sub_cancel_left]
          congr 1
          by_cases q : (L[k]?).join.isSome = true
          · rw [if_pos ⟨by omega, q⟩, if_pos q]
          · rw [if_neg (fun h => q h.2), if_neg q]
        rw [show c0 + 1 + k - c0 = k + 1 by omega, List.getElem?_cons_succ, List.set_cons_succ]
        by_cases q : (L[k]?).join.isSome = true
        · rw [if_pos q] at e
          rw [if_pos ⟨h2, q⟩]
          cases x with
          | some l => simp only [matO, setIn_cons]; rw [if_neg (by omega), e]
          | none => simp only [matO]; exact e
        · rw [if_neg q] at e
          rw [if_neg (fun h => q h.2)]
          cases x with
          | some l => simp only [matO, setIn_cons]; rw [if_neg (by omega), e]
          | none => simp only [matO]; exact e
      · have e : setIn (matO (c0 + 1) sz L) id ⟨false, sz, l'⟩ = matO (c0 + 1) sz L := by rw [setIn_mat L (c0 + 1) id, if_neg (by omega)]
        rw [if_neg (fun h => h2 h.1)]
        cases x with
        | some l => simp only [matO, setIn_cons]; rw [if_neg (by omega), e]
        | none => simp only [matO]; exact e

theorem setIn_none {α : Type} {l : List (Nat × α)} {t : Nat} {v : α} (h : find l t = none) : setIn l t v = l := by
  induction l with
  | nil => rfl
  | cons p l ih =>
    obtain ⟨k, x⟩ := p
    rw [find_cons] at h
    split at h
    · cases h
    · rename_i hne
      rw [setIn_cons, if_neg (Ne.symm hne), ih h]
theorem setIn_mat_lt {c0 sz id : Nat} {L : List (Option (List PV))} {e : Ent} (h : id < c0) : setIn (matO c0 sz L) id e = matO c0 sz L := setIn_none (find_mat_lt h)
theorem setIn_mat_far {c0 sz id : Nat} {L : List (Option (List PV))} {e : Ent} (h : c0 + 3000 ≤ id) (hL : L.length ≤ 3000) : setIn (matO c0 sz L) id e = matO c0 sz L := setIn_none (find_mat_far h hL)
theorem setIn_mat_at {c0 sz a : Nat} {L : List (Option (List PV))} {l l' : List PV} (h : L[a]? = some (some l)) : setIn (matO c0 sz L) (c0 + a) ⟨false, sz, l'⟩ = matO c0 sz (L.set a (some l')) := by
  rw [setIn_mat, if_pos ⟨by omega, by rw [Nat.add_sub_cancel_left, h]; rfl⟩, Nat.add_sub_cancel_left]

/-! ### The numbers of the rows -/
/-- The rows of a tail, as numbers to keep. -/
def idR (c0 : Nat) (ov : Option (Nat × Nat)) (n : Nat) : List (Nat × Nat) := (List.range n).map fun j => (c0 + j, dAt c0 ov j)

theorem idR_fst (c0 : Nat) (ov : Option (Nat × Nat)) (n : Nat) : (idR c0 ov n).map Prod.fst = List.range' c0 n := by
  unfold idR
  rw [List.map_map, List.range'_eq_map_range]
  rfl
theorem idR_mem {c0 n : Nat} {ov : Option (Nat × Nat)} {p : Nat × Nat} : p ∈ idR c0 ov n ↔ ∃ j, j < n ∧ p = (c0 + j, dAt c0 ov j) := by
  unfold idR
  simp [eq_comm]
@[simp] theorem idR_notin1 {c0 n a : Nat} {ov : Option (Nat × Nat)} : a ∈ (idR c0 ov n).map Prod.fst ↔ c0 ≤ a ∧ a < c0 + n := by rw [idR_fst]; simp [List.mem_range'_1]
theorem nodup_idR1 (c0 n : Nat) (ov : Option (Nat × Nat)) : ((idR c0 ov n).map Prod.fst).Nodup := by rw [idR_fst]; exact List.nodup_range'
theorem nodup_map {α β : Type} {f : α → β} : ∀ {l : List α}, l.Nodup → (∀ x ∈ l, ∀ y ∈ l, f x = f y → x = y) → (l.map f).Nodup
  | [], _, _ => by simp
  | x :: l, h, hi => by
    rw [List.nodup_cons] at h
    rw [List.map_cons, List.nodup_cons]
    refine ⟨fun hm => ?_, nodup_map h.2 fun y hy z hz => hi y (by simp [hy]) z (by simp [hz])⟩
    obtain ⟨y, hy, e⟩ := List.mem_map.1 hm
    have := hi y (by simp [hy]) x (by simp) e
    subst this; exact h.1 hy
theorem nodup_idR2 {c0 n : Nat} {ov : Option (Nat × Nat)} (h : ∀ i c, ov = some (i, c) → c0 + n ≤ c) : ((idR c0 ov n).map Prod.snd).Nodup := by
  unfold idR
  rw [List.map_map]
  refine nodup_map List.nodup_range fun x hx y hy e => ?_
  simp only [List.mem_range] at hx hy
  simp only [Function.comp_apply] at e
  cases ov with
  | none => simp only [dAt] at e; omega
  | some p =>
    obtain ⟨i, c⟩ := p
    have := h i c rfl
    simp only [dAt] at e
    split at e <;> split at e <;> omega
theorem idR_notin2 {c0 n b : Nat} {ov : Option (Nat × Nat)} (h : ∀ j, j < n → b ≠ dAt c0 ov j) : ¬ b ∈ (idR c0 ov n).map Prod.snd := by
  intro hm
  obtain ⟨p, hp, e⟩ := List.mem_map.1 hm
  obtain ⟨j, hj, rfl⟩ := idR_mem.1 hp
  exact h j hj e.symm
theorem find_idR {c0 n j : Nat} {ov : Option (Nat × Nat)} (hj : j < n) : find (idR c0 ov n) (c0 + j) = some (dAt c0 ov j) :=
  find_of_mem (nodup_idR1 c0 n ov) (idR_mem.2 ⟨j, hj, rfl⟩)
theorem kpAll_idR {c0 : Nat} {ov : Option (Nat × Nat)} : ∀ {n m : Nat}, m ≤ n → kpAll (idR c0 ov n) c0 ov m = true
  | n, 0, _ => rfl
  | n, m + 1, h => by
    simp only [kpAll, kpAll_idR (show m ≤ n by omega), find_idR (show m < n by omega), Bool.true_and, beq_self_eq_true]
theorem kpAll_cons {c0 a b : Nat} {ov : Option (Nat × Nat)} {kp : List (Nat × Nat)} (h : a < c0) : ∀ {n : Nat}, kpAll ((a, b) :: kp) c0 ov n = kpAll kp c0 ov n
  | 0 => rfl
  | n + 1 => by
    simp only [kpAll, kpAll_cons h, find_cons]
    rw [if_neg (by omega)]
theorem newOf_none_of {kp : List (Nat × Nat)} {id : Nat} (h : ¬ id ∈ kp.map Prod.snd) : newOf kp id = none := by
  cases e : newOf kp id with
  | none => rfl
  | some a => exact (h (List.mem_map.2 ⟨(a, id), newOf_mem e, rfl⟩)).elim
theorem newOf_idR {c0 n b : Nat} {ov : Option (Nat × Nat)} (h : ∀ j, j < n → b ≠ dAt c0 ov j) : newOf (idR c0 ov n) b = none := newOf_none_of (idR_notin2 h)
theorem find_idR_lt {c0 n a : Nat} {ov : Option (Nat × Nat)} (h : a < c0) : find (idR c0 ov n) a = none := by
  cases e : find (idR c0 ov n) a with
  | none => rfl
  | some x => obtain ⟨j, _, h2⟩ := idR_mem.1 (find_mem e); simp only [Prod.mk.injEq] at h2; omega
theorem bound_idR {c0 n m : Nat} {ov : Option (Nat × Nat)} (h : c0 + n ≤ m) : ∀ p ∈ idR c0 ov n, p.1 < m := by
  intro p hp
  obtain ⟨j, hj, rfl⟩ := idR_mem.1 hp
  simp only; omega

/-- The rows of a tail in a later state. -/
theorem heapLe_mat {kp : List (Nat × Nat)} {H : Heap} {sz : Nat} : ∀ {L : List (Option (List PV))} {c0 : Nat},
    (∀ j l, L[j]? = some (some l) → ∃ o e, find kp (c0 + j) = some o ∧ find H o = some e ∧ e.fro = false ∧ e.sz = sz ∧ e.l = l) → sz ≠ 0 → HeapLe kp H (matO c0 sz L)
  | [], _, _, _ => trivial
  | x :: L, c0, h, hz => by
    have ih : HeapLe kp H (matO (c0 + 1) sz L) := heapLe_mat (fun j l hl => by
      have := h (j + 1) l (by simpa using hl)
      rwa [show c0 + (j + 1) = c0 + 1 + j by omega] at this) hz
    cases x with
    | none => exact ih
    | some l =>
      refine ⟨?_, ih⟩
      obtain ⟨o, e, h1, h2, h3, h4, h5⟩ := h 0 l rfl
      rw [Nat.add_zero] at h1
      obtain ⟨f, z, l1⟩ := e
      simp only at h3 h4 h5
      subst h3 h4 h5
      rw [h1, Option.bind_some, h2, Option.bind_some]
      have hb : ((z == 0) : Bool) = false := by simp [hz]
      simp only [convE, hz, if_false, hb]
      rfl

/-- The rows of a tail, written no more. -/
theorem deepRows_mat {kp : List (Nat × Nat)} {H : Heap} {c0 sz : Nat} {ov : Option (Nat × Nat)} {f : Nat → List PV} (hz : sz ≠ 0) : ∀ {n : Nat},
    (∀ j, j < n → newOf kp (dAt c0 ov j) = none ∧ ∃ b, find H (dAt c0 ov j) = some ⟨b, sz, f j⟩) → deepRows kp H c0 ov n = some ((List.range n).map fun j => .sl sz (f j))
  | 0, _ => rfl
  | n + 1, h => by
    obtain ⟨h1, b, h2⟩ := h n (by omega)
    simp only [deepRows, deepRows_mat hz (n := n) (fun j hj => h j (by omega)), h1, h2, hz, if_false]
    rw [List.range_succ, List.map_append]; rfl

theorem find_app {α : Type} : ∀ (l m : List (Nat × α)) (t : Nat), find (l ++ m) t = match find l t with | some x => some x | none => find m t
  | [], _, _ => rfl
  | (k, v) :: l, m, t => by
    rw [List.cons_append, find_cons, find_cons, find_app l m t]
    split <;> rfl

section
variable {C : Cx} {n : Nat} {F : Nat → Prop} {s : St} {a : Act} {W : World} {hdr : Nat → Value} {ow : Nat → Option Nat}

/-- A row of empty rows becomes a row of owned rows. -/
theorem RelAt.deepen (r : RelAt C n F s a W hdr ow) {id c0 sz m : Nat} {rest : List PV} (he : find s.heap id = some ⟨false, 0, .st [] :: rest⟩) (hr : ∀ p ∈ rest, (∃ z l, p = .sl z l) ∨ p = .nl) {x : Option (List PV)} (hx : x = none ∨ (x = some [] ∧ ∀ p ∈ rest, p = .nl)) (hF : ∀ j, F j → j < c0) (hm : c0 + rest.length ≤ m) (hz : sz ≠ 0) :
    ∃ hdr' ow', RelAt C n (· < m) { s with heap := setIn s.heap id ⟨false, 0, encD c0 :: rest⟩ ++ matO c0 sz (List.replicate rest.length x), nx := m } a W hdr' ow' := by
  have hdec : decD (encD c0) = some (c0, none) := by simp [decD]
  obtain ⟨_, _, g, rest', rf, hl, hrf, hN⟩ := (r.mem.ent id _ he).nest rfl rfl rfl (rf := none) (by simp [decR])
  simp only at hl
  injection hl with e1 e2
  subst e1 e2
  have hrf' : rf = none := by simp [decR] at hrf; exact hrf.symm
  subst hrf'
  obtain ⟨vals, hvals, hE⟩ : ∃ vals : Nat → Value, (∀ j, j < rest.length → (∃ a m n, vals j = .slice a m n) ∧ (x = some [] → ∃ ao, vals j = .slice ao 0 0)) ∧ ((rest = [] ∧ ow id = none ∧ ∃ ao, hdr id = .slice ao 0 0) ∨
     ∃ b off cap c, ow id = some b ∧ hdr id = .slice (some ⟨b, off, none⟩) rest.length cap ∧ World.rowO W b c ∧ off + cap ≤ c.length ∧ rest.length ≤ cap ∧ ∀ j v, j < rest.length → c[off + j]? = some v → v = vals j) := by
    rcases hN with hN | ⟨b, off, cap, c, h1, h2, h3, h4, h5, h6⟩
    · exact ⟨fun _ => default, fun j hj => by rw [hN.1] at hj; simp at hj, .inl hN⟩
    · refine ⟨fun j => (c[off + j]?).getD default, fun j hj => ?_, .inr ⟨b, off, cap, c, h1, h2, h3, h4, h5, fun j v _ hv => by show v = (c[off + j]?).getD default; rw [hv]; rfl⟩⟩
      have hc : c[off + j]? = some (c[off + j]'(by omega)) := List.getElem?_eq_getElem (by omega)
      have hh := (h6.2 j rest[j] (c[off + j]'(by omega)) (List.getElem?_eq_getElem hj) (by rw [List.getElem?_take, if_pos hj, List.getElem?_drop]; exact hc)).2 (fun i c h => by cases h)
      have hv : (c[off + j]?).getD default = c[off + j]'(by omega) := by rw [hc]; rfl
      show (∃ a m n, (c[off + j]?).getD default = .slice a m n) ∧ (x = some [] → ∃ ao, (c[off + j]?).getD default = .slice ao 0 0)
      rw [hv]
      have hnl : ∀ {v : Value}, RepC W (OK C W s.heap ow) .nl [v] → v = .slice none 0 0 := fun h => by cases h; rfl
      refine ⟨?_, fun hx1 => ?_⟩
      · rcases hr rest[j] (List.getElem_mem hj) with ⟨z, l, e⟩ | e
        · rw [e] at hh
          rcases hh.slInv with ⟨_, ao, h⟩ | ⟨b', o', cap', c', h, _⟩
          · simp at h; exact ⟨_, _, _, h⟩
          · simp at h; exact ⟨_, _, _, h⟩
        · rw [e] at hh; exact ⟨_, _, _, hnl hh⟩
      · rcases hx with hx | hx
        · rw [hx] at hx1; cases hx1
        · rw [hx.2 rest[j] (List.getElem_mem hj)] at hh; exact ⟨_, hnl hh⟩
  have hnone : ∀ j, c0 ≤ j → find s.heap j = none := fun j hj => by
    cases e : find s.heap j with
    | none => rfl
    | some x => have := hF j (r.idsH j x e); omega
  have hf : ∀ j e, find (setIn s.heap id ⟨false, 0, encD c0 :: rest⟩ ++ matO c0 sz (List.replicate rest.length x)) j = some e →
      (j < c0 ∧ j = id ∧ e = ⟨false, 0, encD c0 :: rest⟩) ∨ (j < c0 ∧ j ≠ id ∧ find s.heap j = some e) ∨ (c0 ≤ j ∧ j - c0 < rest.length ∧ x = some [] ∧ e = ⟨false, sz, []⟩) := by
    intro j e h
    rw [find_app, find_setIn] at h
    by_cases hj : c0 ≤ j
    · right; right
      have : ¬ j = id := by rintro rfl; rw [hnone j hj] at he; cases he
      rw [if_neg this, hnone j hj] at h
      simp only [find_mat, if_pos hj] at h
      rw [List.getElem?_replicate] at h
      split at h
      · rename_i l hl
        split at hl
        · simp only [Option.some.injEq] at hl
          cases h
          rcases hx with hx | hx
          · rw [hx] at hl; cases hl
          · have := hx.1.symm.trans hl; cases this; exact ⟨hj, by assumption, hx.1, rfl⟩
        · cases hl
      · cases h
    · by_cases hji : j = id
      · subst hji; rw [if_pos rfl, he] at h; simp at h; exact .inl ⟨by omega, rfl, h.symm⟩
      · rw [if_neg hji] at h
        cases e1 : find s.heap j with
        | none => rw [e1] at h; simp only [find_mat, if_neg hj] at h; cases h
        | some x => rw [e1] at h; simp at h; subst h; exact .inr (.inl ⟨by omega, hji, rfl⟩)
  have hok : ∀ b, OK C W s.heap ow b → OK C W (setIn s.heap id ⟨false, 0, encD c0 :: rest⟩ ++ matO c0 sz (List.replicate rest.length x)) (fun j => if c0 ≤ j then none else ow j) b := by
    rintro b ⟨h1, h2⟩
    refine ⟨h1, ?_⟩
    rintro ⟨j, e, hj, hb⟩
    rcases hf j e hj with ⟨q, rfl, _⟩ | ⟨q, _, hj⟩ | ⟨q, _⟩
    · simp only [if_neg (show ¬ c0 ≤ j by omega)] at hb; exact h2 ⟨j, _, he, hb⟩
    · simp only [if_neg (show ¬ c0 ≤ j by omega)] at hb; exact h2 ⟨j, e, hj, hb⟩
    · simp [if_pos q] at hb
  refine ⟨fun j => if c0 ≤ j then vals (j - c0) else hdr j, fun j => if c0 ≤ j then none else ow j, r.rebuild (m := m) (F' := (· < m)) ⟨?_, ?_, ?_, r.mem.size, r.mem.frame, r.mem.os, r.mem.tape, r.mem.output⟩ (fun b hb => ⟨hok b hb, rfl⟩) ?_ ?_ (fun j h => Nat.lt_of_lt_of_le (hF j h) (by omega)) ?_⟩
  · intro j e hj
    rcases hf j e hj with ⟨q, rfl, rfl⟩ | ⟨q, _, hj⟩ | ⟨q, q2, q3, rfl⟩
    · simp only [if_neg (show ¬ c0 ≤ j by omega)]
      refine .inr (.inr (.inl ⟨rfl, rfl, encD c0, rest, c0, none, rfl, hdec, hE.imp id fun ⟨b, off, cap, c, h1, h2, h3, h4, h5, h6⟩ => ⟨b, off, cap, c, h1, h2, h3, h4, h5, fun i v hi hv => ?_⟩⟩))
      have := h6 i v hi hv
      simp only [dAt, Nat.le_add_right, if_true, Nat.add_sub_cancel_left]
      obtain ⟨⟨_, _, _, h⟩, _⟩ := hvals i hi
      exact ⟨this, _, _, _, this.trans h⟩
    · simp only [if_neg (show ¬ c0 ≤ j by omega)]
      refine (r.mem.ent j e hj).mono (fun b hb => ⟨hok b hb, rfl⟩) (fun _ _ => rfl) (fun c hc => ?_)
      have := hF c (r.idsR j e c hj hc)
      rw [if_neg (by omega)]
    · simp only [if_pos q]
      obtain ⟨ao, h⟩ := (hvals _ q2).2 q3
      exact .inl ⟨fun _ => .inr rfl, .inr (.inl ⟨rfl, rfl, ao, h⟩)⟩
  · intro j j' e e' b hj hj' hb hb'
    have key : ∀ j e, find (setIn s.heap id ⟨false, 0, encD c0 :: rest⟩ ++ matO c0 sz (List.replicate rest.length x)) j = some e → (if c0 ≤ j then none else ow j) = some b → ∃ e0, find s.heap j = some e0 ∧ ow j = some b := by
      intro j e hj hb
      rcases hf j e hj with ⟨q, rfl, _⟩ | ⟨q, _, hj⟩ | ⟨q, _⟩
      · rw [if_neg (by omega)] at hb; exact ⟨_, he, hb⟩
      · rw [if_neg (by omega)] at hb; exact ⟨_, hj, hb⟩
      · rw [if_pos q] at hb; cases hb
    obtain ⟨e0, g1, g2⟩ := key j e hj hb
    obtain ⟨e0', g1', g2'⟩ := key j' e' hj' hb'
    exact r.mem.inj j j' e0 e0' b g1 g1' g2 g2'
  · intro j e b hj hb
    rcases hf j e hj with ⟨q, rfl, _⟩ | ⟨q, _, hj⟩ | ⟨q, _⟩
    · simp only [if_neg (show ¬ c0 ≤ j by omega)] at hb; exact r.mem.lt j _ b he hb
    · simp only [if_neg (show ¬ c0 ≤ j by omega)] at hb; exact r.mem.lt j e b hj hb
    · simp [if_pos q] at hb
  · intro j hj e he'
    have := hF j hj
    rcases hf j e he' with ⟨q, rfl, rfl⟩ | ⟨q, _, hj⟩ | ⟨q, _⟩
    · exact ⟨_, he, by simp only [if_neg (show ¬ c0 ≤ j by omega)], rfl⟩
    · exact ⟨_, hj, by simp only [if_neg (show ¬ c0 ≤ j by omega)], rfl⟩
    · omega
  · intro j e hj
    rcases hf j e hj with ⟨q, _⟩ | ⟨q, _⟩ | ⟨q, q2, _⟩ <;> omega
  · intro j e c hj hc
    rcases hf j e hj with ⟨q, _, rfl⟩ | ⟨q, _, hj⟩ | ⟨q, _, _, rfl⟩
    · obtain ⟨i, hi, e1⟩ := (Ent.refs_D rfl rfl hdec).1 hc
      simp only [dAt] at e1; omega
    · have := hF c (r.idsR j e c hj hc); omega
    · exact (Ent.refs_nil hc).elim
end

section
variable {C : Cx} {n : Nat} {F : Nat → Prop} {s : St} {a : Act} {W : World} {hdr : Nat → Value} {ow : Nat → Option Nat}
/-- A nil cell of an open row is told as an owned row without elements. -/
theorem RelAt.fill (r : RelAt C n F s a W hdr ow) {id c0 sz i : Nat} {rest : List PV} (he : find s.heap id = some ⟨false, 0, .st [] :: rest⟩) (hi : rest[i]? = some .nl) (hF : ∀ j, F j → j < c0) (hz : sz ≠ 0) :
    ∃ hdr' ow', RelAt C n (· < c0 + 1) ⟨s.env, (c0, ⟨false, sz, []⟩) :: setIn s.heap id ⟨false, 0, encR i c0 :: rest⟩, c0 + 1⟩ a W hdr' ow' := by
  have hid : id < c0 := hF id (r.idsH id _ he)
  have hf : ∀ j e, find ((c0, ⟨false, sz, []⟩) :: setIn s.heap id ⟨false, 0, encR i c0 :: rest⟩) j = some e → (j = c0 ∧ e = ⟨false, sz, []⟩) ∨ (j = id ∧ e = ⟨false, 0, encR i c0 :: rest⟩) ∨ (j < c0 ∧ j ≠ id ∧ find s.heap j = some e) := by
    intro j e h
    rw [find_cons] at h
    by_cases h1 : j = c0
    · subst h1; rw [if_pos rfl] at h; cases h; exact .inl ⟨rfl, rfl⟩
    · rw [if_neg h1, find_setIn] at h
      by_cases h2 : j = id
      · subst h2; rw [if_pos rfl, he] at h; simp at h; exact .inr (.inl ⟨rfl, h.symm⟩)
      · rw [if_neg h2] at h
        exact .inr (.inr ⟨hF j (r.idsH j e h), h2, h⟩)
  have hok : ∀ b, OK C W s.heap ow b → OK C W ((c0, ⟨false, sz, []⟩) :: setIn s.heap id ⟨false, 0, encR i c0 :: rest⟩) (fun j => if j = c0 then none else ow j) b := by
    rintro b ⟨h1, h2⟩
    refine ⟨h1, ?_⟩
    rintro ⟨j, e, hj, hb⟩
    rcases hf j e hj with ⟨rfl, _⟩ | ⟨rfl, _⟩ | ⟨q, _, hj⟩
    · simp at hb
    · simp only [if_neg (show ¬ j = c0 by omega)] at hb; exact h2 ⟨_, _, he, hb⟩
    · simp only [if_neg (show ¬ j = c0 by omega)] at hb; exact h2 ⟨j, e, hj, hb⟩
  have hE := (r.mem.ent id _ he).nest rfl rfl rfl (rf := none) (by simp [decR])
  refine ⟨fun j => if j = c0 then .slice none 0 0 else hdr j, fun j => if j = c0 then none else ow j, r.rebuild (m := c0 + 1) (F' := (· < c0 + 1)) ⟨?_, ?_, ?_, r.mem.size, r.mem.frame, r.mem.os, r.mem.tape, r.mem.output⟩ (fun b hb => ⟨hok b hb, rfl⟩) ?_ ?_ (fun j h => Nat.lt_succ_of_lt (hF j h)) ?_⟩
  · intro j e hj
    rcases hf j e hj with ⟨rfl, rfl⟩ | ⟨rfl, rfl⟩ | ⟨q, q2, hj⟩
    · simp only [if_true]
      exact .inl ⟨fun _ => .inr rfl, .inr (.inl ⟨rfl, rfl, none, rfl⟩)⟩
    · simp only [if_neg (show ¬ j = c0 by omega)]
      obtain ⟨_, _, q, rest', rf, hl, hq, hE⟩ := hE
      injection hl with e1 e2; subst e1 e2
      have hrf : rf = none := by simp [decR] at hq; exact hq.symm
      subst hrf
      refine .inr (.inl ⟨rfl, rfl, encR i c0, rest, some (i, c0), rfl, by simp [decR], ?_⟩)
      rcases hE with ⟨h1, _⟩ | ⟨b, off, cap, c, h1, h2, h3, h4, h5, h6, h7⟩
      · rw [h1] at hi; simp at hi
      · refine .inr ⟨b, off, cap, c, h1, h2, h3, h4, h5, h6, fun j p v hp hv => ⟨fun i' c' e1 e2 => ?_, fun _ => ((h7 j p v hp hv).2 (by simp)).mono fun b hb => ⟨hok b hb, rfl⟩⟩⟩
        simp only [Option.some.injEq, Prod.mk.injEq] at e1
        obtain ⟨rfl, rfl⟩ := e1
        subst e2
        rw [hi] at hp; cases hp
        have hv2 := (h7 _ _ v hi hv).2 (by simp)
        have hvn : v = .slice none 0 0 := by
          generalize hvv : [v] = vv at hv2
          cases hv2
          simpa using hvv
        simp only [if_true]
        exact ⟨hvn, none, 0, 0, hvn⟩
    · simp only [if_neg (show ¬ j = c0 by omega)]
      refine (r.mem.ent j e hj).mono (fun b hb => ⟨hok b hb, rfl⟩) (fun _ _ => rfl) (fun c hc => ?_)
      have := hF c (r.idsR j e c hj hc)
      simp only [if_neg (show ¬ c = c0 by omega)]
  · intro j j' e e' b hj hj' hb hb'
    have key : ∀ j e, find ((c0, ⟨false, sz, []⟩) :: setIn s.heap id ⟨false, 0, encR i c0 :: rest⟩) j = some e → (if j = c0 then none else ow j) = some b → ∃ e0, find s.heap j = some e0 ∧ ow j = some b := by
      intro j e hj hb
      rcases hf j e hj with ⟨rfl, _⟩ | ⟨rfl, _⟩ | ⟨q, _, hj⟩
      · simp at hb
      · simp only [if_neg (show ¬ j = c0 by omega)] at hb; exact ⟨_, he, hb⟩
      · simp only [if_neg (show ¬ j = c0 by omega)] at hb; exact ⟨_, hj, hb⟩
    obtain ⟨e0, g1, g2⟩ := key j e hj hb
    obtain ⟨e0', g1', g2'⟩ := key j' e' hj' hb'
    exact r.mem.inj j j' e0 e0' b g1 g1' g2 g2'
  · intro j e b hj hb
    rcases hf j e hj with ⟨rfl, _⟩ | ⟨rfl, _⟩ | ⟨q, _, hj⟩
    · simp at hb
    · simp only [if_neg (show ¬ j = c0 by omega)] at hb; exact r.mem.lt j _ b he hb
    · simp only [if_neg (show ¬ j = c0 by omega)] at hb; exact r.mem.lt j e b hj hb
  · intro j hj e he'
    have := hF j hj
    rcases hf j e he' with ⟨rfl, _⟩ | ⟨rfl, rfl⟩ | ⟨q, _, hj⟩
    · omega
    · exact ⟨_, he, by simp only [if_neg (show ¬ j = c0 by omega)], rfl⟩
    · exact ⟨_, hj, by simp only [if_neg (show ¬ j = c0 by omega)], rfl⟩
  · intro j e hj
    rcases hf j e hj with ⟨rfl, _⟩ | ⟨rfl, _⟩ | ⟨q, _, hj⟩ <;> omega
  · intro j e c hj hc
    rcases hf j e hj with ⟨rfl, rfl⟩ | ⟨rfl, rfl⟩ | ⟨q, _, hj⟩
    · exact (Ent.refs_nil hc).elim
    · obtain ⟨i', h⟩ := (Ent.refs_R (e := ⟨false, 0, encR i c0 :: rest⟩) (g := encR i c0) (rest := rest) (rf := some (i, c0)) rfl rfl (by simp [decR])).1 hc
      simp only [Option.some.injEq, Prod.mk.injEq] at h
      omega
    · have := hF c (r.idsR j e c hj hc); omega
end

section
variable {P : Program} {D : Fd} {G : Gl} {k : List MI} {s : St}
theorem Run.fill {id c0 i : Nat} (sz : Nat) {rest : List PV} (he : find s.heap id = some ⟨false, 0, .st [] :: rest⟩) (hi : rest[i]? = some .nl) (hc : s.nx ≤ c0) (hz : sz ≠ 0)
    (h : Run P D G k ⟨s.env, (c0, ⟨false, sz, []⟩) :: setIn s.heap id ⟨false, 0, encR i c0 :: rest⟩, c0 + 1⟩) : Run P D G k s := by
  intro C fn a W hdr ow items hC hfn r hm' b cs hb hbk
  obtain ⟨hdr', ow', r'⟩ := r.fill (sz := sz) he hi (fun j hj => Nat.lt_of_lt_of_le hj hc) hz
  exact h C fn a W hdr' ow' items hC hfn r' hm' b cs hb hbk
/-- The rows to keep that are elements of boxes, by the slots that hold the boxes. -/
def kpR (s : St) : List (Nat × Nat) → List (Nat × Nat)
  | [] => []
  | (a, t) :: l => match find s.env t with
    | some (.ptr id _ _) => (match (find s.heap id).bind Ent.ref with | some c => (a, c) :: kpR s l | none => kpR s l)
    | _ => kpR s l
@[simp] theorem kpR_nil (s : St) : kpR s [] = [] := rfl
@[simp] theorem kpR_cons (s : St) (a t : Nat) (l : List (Nat × Nat)) : kpR s ((a, t) :: l) = match find s.env t with
    | some (.ptr id _ _) => (match (find s.heap id).bind Ent.ref with | some c => (a, c) :: kpR s l | none => kpR s l)
    | _ => kpR s l := rfl
@[simp] theorem ref_enc (f : Bool) (i c : Nat) (l : List PV) : (Ent.mk f 0 (encR i c :: l)).ref = some c := by simp [Ent.ref, decR]
@[simp] theorem ref_open (f : Bool) (l : List PV) : (Ent.mk f 0 (.st [] :: l)).ref = none := by simp [Ent.ref, decR]
@[simp] theorem ref_row (f : Bool) (z : Nat) (l : List PV) : (Ent.mk f (z + 1) l).ref = none := by simp [Ent.ref]
@[simp] theorem renE_enc (g : Nat → Nat) (f : Bool) (i c : Nat) (l : List PV) : renE g ⟨f, 0, encR i c :: l⟩ = ⟨f, 0, encR i (g c) :: l⟩ := by simp [renE, decR]
@[simp] theorem renE_open (g : Nat → Nat) (f : Bool) (l : List PV) : renE g ⟨f, 0, .st [] :: l⟩ = ⟨f, 0, .st [] :: l⟩ := by simp [renE, decR]
@[simp] theorem renE_row (g : Nat → Nat) (f : Bool) (z : Nat) (l : List PV) : renE g ⟨f, z + 1, l⟩ = ⟨f, z + 1, l⟩ := rfl
@[simp] theorem renE_1 (g : Nat → Nat) (f : Bool) (l : List PV) : renE g ⟨f, 1, l⟩ = ⟨f, 1, l⟩ := rfl
@[simp] theorem renE_2 (g : Nat → Nat) (f : Bool) (l : List PV) : renE g ⟨f, 2, l⟩ = ⟨f, 2, l⟩ := rfl
@[simp] theorem renE_3 (g : Nat → Nat) (f : Bool) (l : List PV) : renE g ⟨f, 3, l⟩ = ⟨f, 3, l⟩ := rfl
@[simp] theorem renE_4 (g : Nat → Nat) (f : Bool) (l : List PV) : renE g ⟨f, 4, l⟩ = ⟨f, 4, l⟩ := rfl
@[simp] theorem renE_map (g : Nat → Nat) (f : Bool) (x : ByteArray) (l : List PV) : renE g ⟨f, 0, .st [.w (.string x)] :: l⟩ = ⟨f, 0, .st [.w (.string x)] :: l⟩ := rfl
@[simp] theorem renH_nil (g : Nat → Nat) : renH g [] = [] := rfl
@[simp] theorem renH_cons (g : Nat → Nat) (k : Nat) (e : Ent) (H : Heap) : renH g ((k, e) :: H) = (k, renE g e) :: renH g H := rfl
attribute [simp] outN
/-- A loop with rows in boxes. -/
theorem Run.loopB {x : MC} {ι : Type} (tg bx : List (Nat × Nat)) (I : ι → Prop) (st : ι → St) (ms : ι → Nat) (i0 : ι) (hl : D.rs.length ≤ 4) (hle : Le G.nin (kpA s.env tg ++ kpR s bx) s (st i0)) (h0 : I i0)
    (step : ∀ i, I i → (∀ (j : ι) (s' : St), I j → ms j < ms i → Le G.nin (kpA s'.env tg ++ kpR s' bx) s' (st j) → Run P D G (.inLoop x :: k) s') → Ex P D G 4000 .ctl (.code x :: .inLoop x :: k) (st i)) : Run P D G (.code (.loop x) :: k) s :=
  Run.loopI I st ms i0 _ hl hle h0 fun i hi ih => step i hi fun j s' hj hm hle' => ih j _ s' hj hm hle'
end

section
variable {P : Program} {D : Fd} {G : Gl} {k : List MI} {s : St}
theorem Run.deepen {id c0 sz m : Nat} {rest : List PV} (he : find s.heap id = some ⟨false, 0, .st [] :: rest⟩) (hr : ∀ p ∈ rest, (∃ z l, p = .sl z l) ∨ p = .nl) {x : Option (List PV)} (hx : x = none ∨ (x = some [] ∧ ∀ p ∈ rest, p = .nl)) (hc : s.nx ≤ c0) (hm : c0 + rest.length ≤ m) (hz : sz ≠ 0)
    (h : Run P D G k ⟨s.env, setIn s.heap id ⟨false, 0, encD c0 :: rest⟩ ++ matO c0 sz (List.replicate rest.length x), m⟩) : Run P D G k s := by
  intro C fn a W hdr ow items hC hfn r hm' b cs hb hbk
  obtain ⟨hdr', ow', r'⟩ := r.deepen (sz := sz) he hr hx (fun j hj => Nat.lt_of_lt_of_le hj hc) hm hz
  exact h C fn a W hdr' ow' items hC hfn r' hm' b cs hb hbk
/-- A loop beside a tail of owned rows c0, .., c0 + n - 1. -/
theorem Run.loopD {s : St} {x : MC} {ι : Type} (tg : List (Nat × Nat)) (c0 n : Nat) (I : ι → Prop) (st : ι → St) (ms : ι → Nat) (i0 : ι) (ov0 : Option (Nat × Nat)) (hl : D.rs.length ≤ 4) (hle : Le G.nin (kpA s.env tg ++ idR c0 ov0 n) s (st i0)) (h0 : I i0)
    (step : ∀ i, I i → (∀ (j : ι) (ov : Option (Nat × Nat)) (s' : St), I j → ms j < ms i → Le G.nin (kpA s'.env tg ++ idR c0 ov n) s' (st j) → Run P D G (.inLoop x :: k) s') → Ex P D G 4000 .ctl (.code x :: .inLoop x :: k) (st i)) : Run P D G (.code (.loop x) :: k) s :=
  Run.loopI I st ms i0 _ hl hle h0 fun i hi ih => step i hi fun j ov s' hj hm hle' => ih j _ s' hj hm hle'
/-- To a state that says less. -/
theorem Run.leA {s s' : St} (tg : List (Nat × Nat)) (hle : Le G.nin (kpA s.env tg) s s') (h : Run P D G k s') : Run P D G k s := Run.le hle h
theorem Run.leD {s s' : St} (tg : List (Nat × Nat)) (c0 n : Nat) (ov : Option (Nat × Nat)) (hle : Le G.nin (kpA s.env tg ++ idR c0 ov n) s s') (h : Run P D G k s') : Run P D G k s := Run.le hle h
end

theorem le_idR {nin n c0 : Nat} {kp : List (Nat × Nat)} {ov : Option (Nat × Nat)} {s s' : St} (h3 : n ≤ 3000) (h1 : (kp.map Prod.fst).Nodup) (h1' : ∀ p ∈ kp, p.1 < c0 ∧ p.1 < s'.nx) (h2 : (kp.map Prod.snd).Nodup) (h2' : ∀ p ∈ kp, (p.2 < c0 ∨ c0 + 3000 ≤ p.2) ∧ ∀ i c, ov = some (i, c) → p.2 ≠ c) (ho : ∀ i c, ov = some (i, c) → c0 + 3000 ≤ c)
    (hE : EnvLe (kp ++ idR c0 ov n) s.heap s.env s'.env) (hH : HeapLe (kp ++ idR c0 ov n) s.heap s'.heap) (hx : c0 + 3000 ≤ s'.nx) (hn : nin ≤ s'.nx) (hk : ∀ j, j < nin → (find s'.heap j).isSome = true → find (kp ++ idR c0 ov n) j = some j) : Le nin (kp ++ idR c0 ov n) s s' := by
  have hd : ∀ j, j < n → dAt c0 ov j = c0 + j ∨ ∃ i c, ov = some (i, c) ∧ dAt c0 ov j = c := by
    intro j hj
    cases ov with
    | none => exact .inl rfl
    | some p =>
      obtain ⟨i, c⟩ := p
      simp only [dAt]
      split
      · exact .inr ⟨i, c, rfl, rfl⟩
      · exact .inl rfl
  refine ⟨?_, ?_, hE, hH, ?_, hn, hk⟩
  · rw [List.map_append, List.nodup_append]
    refine ⟨h1, nodup_idR1 _ _ _, fun a ha b hb e => ?_⟩
    subst e
    obtain ⟨p, hp, rfl⟩ := List.mem_map.1 ha
    have := h1' p hp
    rw [idR_notin1] at hb; omega
  · rw [List.map_append, List.nodup_append]
    refine ⟨h2, nodup_idR2 (fun i c h => by have := ho i c h; omega), fun a ha b hb e => ?_⟩
    subst e
    obtain ⟨p, hp, rfl⟩ := List.mem_map.1 ha
    obtain ⟨q, hq, e2⟩ := List.mem_map.1 hb
    obtain ⟨j, hj, rfl⟩ := idR_mem.1 hq
    obtain ⟨g1, g2⟩ := h2' p hp
    simp only at e2
    rcases hd j hj with h | ⟨i, c, h4, h⟩
    · rw [h] at e2; omega
    · rw [h] at e2; exact g2 i c h4 e2.symm
  · intro p hp
    rcases List.mem_append.1 hp with hp | hp
    · exact (h1' p hp).2
    · exact bound_idR (m := s'.nx) (by omega) p hp
theorem le_tg {nin n c0 : Nat} {tg kp : List (Nat × Nat)} {ov : Option (Nat × Nat)} {s s' : St} (hkp : kpA s.env tg = kp) (h3 : n ≤ 3000) (h1 : (kp.map Prod.fst).Nodup) (h1' : ∀ p ∈ kp, p.1 < c0 ∧ p.1 < s'.nx) (h2 : (kp.map Prod.snd).Nodup) (h2' : ∀ p ∈ kp, (p.2 < c0 ∨ c0 + 3000 ≤ p.2) ∧ ∀ i c, ov = some (i, c) → p.2 ≠ c) (ho : ∀ i c, ov = some (i, c) → c0 + 3000 ≤ c)
    (hx : c0 + 3000 ≤ s'.nx) (hn : nin ≤ s'.nx) (hk : ∀ j, j < nin → (find s'.heap j).isSome = true → find (kp ++ idR c0 ov n) j = some j) (hE : EnvLe (kp ++ idR c0 ov n) s.heap s.env s'.env) (hH : HeapLe (kp ++ idR c0 ov n) s.heap s'.heap) : Le nin (kpA s.env tg ++ idR c0 ov n) s s' := by
  rw [hkp]; exact le_idR h3 h1 h1' h2 h2' ho hE hH hx hn hk
theorem kpAll_same (c0 n : Nat) (ov : Option (Nat × Nat)) : kpAll (idR c0 ov n) c0 ov n = true := kpAll_idR (Nat.le_refl _)
@[simp] theorem c0_ne {j k : Nat} (h : k < 1024) : (1024 + j = k) = False := eq_false (by omega)
@[simp] theorem c0_ne' {j k : Nat} (h : k < 1024) : (k = 1024 + j) = False := eq_false (by omega)
@[simp] theorem c0_far {j k : Nat} (hj : j < 3000) (h : 4024 ≤ k) : (1024 + j = k) = False := eq_false (by omega)
@[simp] theorem c0_far' {j k : Nat} (hj : j < 3000) (h : 4024 ≤ k) : (k = 1024 + j) = False := eq_false (by omega)
attribute [simp] kpAll_cons kpAll_same find_mat_lt find_mat_far strike_mat_lt strike_mat_far setIn_mat_lt setIn_mat_far setIn_mat_at find_idR_lt
theorem tail_none {kp : List (Nat × Nat)} {H : Heap} {L : List (Option (List PV))} {c0 sz n : Nat} (hn : L.length ≤ n) (h3 : n ≤ 3000) (hkp : ∀ j, j < n → find kp (c0 + j) = some (c0 + j)) (hH : ∀ j, j < 3000 → find H (c0 + j) = find (matO c0 sz L) (c0 + j)) (hz : sz ≠ 0) : HeapLe kp H (matO c0 sz L) := by
  refine heapLe_mat (fun j l hj => ?_) hz
  have hjl := (List.getElem?_eq_some_iff.1 hj).1
  refine ⟨_, ⟨false, sz, l⟩, hkp j (by omega), ?_, rfl, rfl, rfl⟩
  rw [hH j (by omega), find_mat_at, hj]
theorem tail_some {kp : List (Nat × Nat)} {H : Heap} {L : List (Option (List PV))} {c0 sz n i c : Nat} {l : List PV} (hn : L.length ≤ n) (h3 : n ≤ 3000) (hkp : ∀ j, j < n → find kp (c0 + j) = some (dAt c0 (some (i, c)) j)) (hH : ∀ j, j < 3000 → find H (c0 + j) = find (matO c0 sz L) (c0 + j)) (hc : find H c = some ⟨false, sz, l⟩) (hz : sz ≠ 0) : HeapLe kp H (matO c0 sz (L.set i (some l))) := by
  refine heapLe_mat (fun j l' hj => ?_) hz
  have hjl := (List.getElem?_eq_some_iff.1 hj).1
  rw [List.length_set] at hjl
  rw [List.getElem?_set] at hj
  refine ⟨_, ⟨false, sz, l'⟩, hkp j (by omega), ?_, rfl, rfl, rfl⟩
  simp only [dAt]
  by_cases e : j = i
  · rw [if_pos e.symm] at hj
    split at hj
    · simp at hj; subst hj; rw [if_pos e]; exact hc
    · cases hj
  · rw [if_neg (fun h => e h.symm)] at hj
    rw [if_neg e, hH j (by omega), find_mat_at, hj]
end Go.AM

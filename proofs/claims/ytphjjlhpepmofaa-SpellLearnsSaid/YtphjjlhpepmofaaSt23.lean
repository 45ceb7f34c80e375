/- Plain laws. -/
import Derived.Test.YtphjjlhpepmofaaPl23
set_option linter.all false
set_option maxHeartbeats 2000000
namespace Go.Proofs
open Go Go.AM
/-! The steps of the reference. -/
abbrev StepT := Int × Int × Int × Int × Unit
def stepV (s : StepT) : PV := .st [.w (.int .i64 s.1), .w (.int .i64 s.2.1), .w (.int .i64 s.2.2.1), .w (.int .i64 s.2.2.2.1)]
/-- How far a kind of edit goes, and what it costs, if it can be. -/
def stG (p : PricesT) : Nat → List Bs → List Bs → Option (Nat × Nat × Int)
  | 0, x :: _, y :: _ => if x = y then some (1, 1, 0) else none
  | 1, _ :: _, _ => some (1, 0, p.1)
  | 2, _, _ :: _ => some (0, 1, p.2.1)
  | 3, x :: _, y :: _ => if x = y then none else some (1, 1, chg p x y)
  | 4, x :: x2 :: _, y :: y2 :: _ => if 0 < p.2.2.1 ∧ x ≠ x2 ∧ x = y2 ∧ x2 = y then some (2, 2, p.2.2.1) else none
  | _, _, _ => none
theorem byG_st (p : PricesT) (g : List Bs → List Bs → Int) (k : Nat) (w v : List Bs) : byG p g k w v = (stG p k w v).map fun r => r.2.2 + g (w.drop r.1) (v.drop r.2.1) := by
  rcases k with _ | _ | _ | _ | _ | k
  · rcases w with _ | ⟨x, w⟩ <;> rcases v with _ | ⟨y, v⟩ <;> simp only [byG, stG, Option.map_none]
    split <;> simp
  · rcases w with _ | ⟨x, w⟩ <;> simp [byG, stG]
  · rcases v with _ | ⟨x, v⟩
    · simp [byG, stG]
    · cases w <;> simp [byG, stG]
  · rcases w with _ | ⟨x, w⟩ <;> rcases v with _ | ⟨y, v⟩ <;> simp only [byG, stG, Option.map_none]
    split <;> simp
  · rcases w with _ | ⟨x, _ | ⟨x2, w⟩⟩ <;> rcases v with _ | ⟨y, _ | ⟨y2, v⟩⟩ <;> simp only [byG, stG, Option.map_none]
    split <;> simp
  · simp [byG, stG]
def stL (p : PricesT) (k : Nat) (w v : List Bs) : List StepT := match stG p k w v with
  | none => []
  | some (x, y, c) => [((k : Int), (x : Int), (y : Int), c, ())]
def stepsL (p : PricesT) (w v : List Bs) : List StepT := stL p 0 w v ++ (stL p 1 w v ++ (stL p 2 w v ++ (stL p 3 w v ++ stL p 4 w v)))
/-- What a step costs, with the rest. -/
def stC (p : PricesT) (w v : List Bs) (s : StepT) : Int := s.2.2.2.1 + pr p (w.drop s.2.1.toNat) (v.drop s.2.2.1.toNat)
def bstI (b c : Int) : Int := bst b (some c)
theorem bst_fold (p : PricesT) (w v : List Bs) (k : Nat) (b : Int) : bst b (byG p (pr p) k w v) = ((stL p k w v).map (stC p w v)).foldl bstI b := by
  rw [byG_st]
  unfold stL
  cases stG p k w v with
  | none => rfl
  | some r => obtain ⟨x, y, c⟩ := r; simp [bstI, stC]
theorem pr_steps (p : PricesT) (w v : List Bs) : pr p w v = max (((stepsL p w v).map (stC p w v)).foldl bstI (-1)) 0 := by
  rw [pr_eq]
  unfold fold5 stepsL
  simp only [bst_fold, List.map_append, List.foldl_append]
theorem stG_inv {p : PricesT} {k : Nat} {w v : List Bs} {x y : Nat} {c : Int} (h : OkP p) (hs : stG p k w v = some (x, y, c)) : x ≤ w.length ∧ y ≤ v.length ∧ 1 ≤ x + y ∧ x ≤ 2 ∧ y ≤ 2 ∧ 0 ≤ c ∧ c ≤ 1000 := by
  have h1 := h.drop; have h2 := h.put; have h3 := h.swap
  rcases k with _ | _ | _ | _ | _ | k
  · rcases w with _ | ⟨a, w⟩ <;> rcases v with _ | ⟨b, v⟩ <;> simp only [stG] at hs
    · cases hs
    · cases hs
    · cases hs
    · split at hs
      · cases hs; simp
      · cases hs
  · rcases w with _ | ⟨a, w⟩ <;> simp only [stG] at hs
    · cases hs
    · cases hs; simp; omega
  · rcases v with _ | ⟨a, v⟩
    · simp [stG] at hs
    · simp only [stG] at hs; cases hs; simp; omega
  · rcases w with _ | ⟨a, w⟩ <;> rcases v with _ | ⟨b, v⟩ <;> simp only [stG] at hs
    · cases hs
    · cases hs
    · cases hs
    · split at hs
      · cases hs
      · cases hs; have := h.chg a b; simp; omega
  · rcases w with _ | ⟨a, _ | ⟨a2, w⟩⟩ <;> rcases v with _ | ⟨b, _ | ⟨b2, v⟩⟩ <;> simp only [stG] at hs
    all_goals first
      | (cases hs; done)
      | (split at hs
         · cases hs; simp; omega
         · cases hs)
  · simp [stG] at hs
theorem stL_inv {p : PricesT} {k : Nat} {w v : List Bs} (h : OkP p) {s : StepT} (hs : s ∈ stL p k w v) : ∃ x y c, s = ((k : Int), ((x : Nat) : Int), ((y : Nat) : Int), c, ()) ∧ x ≤ w.length ∧ y ≤ v.length ∧ 1 ≤ x + y ∧ x ≤ 2 ∧ y ≤ 2 ∧ 0 ≤ c ∧ c ≤ 1000 := by
  unfold stL at hs
  split at hs
  · cases hs
  · rename_i x y c e
    simp at hs
    exact ⟨x, y, c, hs, stG_inv h e⟩
theorem stepsL_inv {p : PricesT} {w v : List Bs} (h : OkP p) {s : StepT} (hs : s ∈ stepsL p w v) : ∃ (k x y : Nat) (c : Int), s = ((k : Int), (x : Int), (y : Int), c, ()) ∧ k ≤ 4 ∧ x ≤ w.length ∧ y ≤ v.length ∧ 1 ≤ x + y ∧ x ≤ 2 ∧ y ≤ 2 ∧ 0 ≤ c ∧ c ≤ 1000 := by
  simp only [stepsL, List.mem_append] at hs
  rcases hs with hs | hs | hs | hs | hs
  · obtain ⟨x, y, c, e, q⟩ := stL_inv h hs; exact ⟨0, x, y, c, e, by omega, q⟩
  · obtain ⟨x, y, c, e, q⟩ := stL_inv h hs; exact ⟨1, x, y, c, e, by omega, q⟩
  · obtain ⟨x, y, c, e, q⟩ := stL_inv h hs; exact ⟨2, x, y, c, e, by omega, q⟩
  · obtain ⟨x, y, c, e, q⟩ := stL_inv h hs; exact ⟨3, x, y, c, e, by omega, q⟩
  · obtain ⟨x, y, c, e, q⟩ := stL_inv h hs; exact ⟨4, x, y, c, e, by omega, q⟩
theorem stL_len (p : PricesT) (k : Nat) (w v : List Bs) : (stL p k w v).length ≤ 1 := by unfold stL; split <;> simp
theorem stepsL_len (p : PricesT) (w v : List Bs) : (stepsL p w v).length ≤ 5 := by
  have h0 := stL_len p 0 w v; have h1 := stL_len p 1 w v; have h2 := stL_len p 2 w v; have h3 := stL_len p 3 w v; have h4 := stL_len p 4 w v
  simp only [stepsL, List.length_append]; omega
theorem stepsL_ne {p : PricesT} {w v : List Bs} (h : ¬ (w = [] ∧ v = [])) : stepsL p w v ≠ [] := by
  intro e
  simp only [stepsL, List.append_eq_nil_iff] at e
  obtain ⟨_, e1, e2, _⟩ := e
  cases w with
  | cons x w => simp [stL, stG] at e1
  | nil => cases v with
    | cons y v => simp [stL, stG] at e2
    | nil => exact h ⟨rfl, rfl⟩
theorem foldI_nonneg : ∀ (l : List Int) (b : Int), 0 ≤ b → (∀ c ∈ l, 0 ≤ c) → 0 ≤ l.foldl bstI b
  | [], b, h, _ => h
  | c :: l, b, h, hl => by
    refine foldI_nonneg l _ ?_ fun x hx => hl x (by simp [hx])
    exact (bst_some (b := b) (hl c (by simp))).2
/-- The least of the first n steps. -/
def minN (p : PricesT) (w v : List Bs) (n : Nat) : Int := (((stepsL p w v).take n).map (stC p w v)).foldl bstI (-1)
theorem minN_succ (p : PricesT) (w v : List Bs) {n : Nat} (h : n < (stepsL p w v).length) : minN p w v (n + 1) = bstI (minN p w v n) (stC p w v (stepsL p w v)[n]) := by
  unfold minN; rw [List.take_succ_eq_append_getElem h, List.map_append, List.foldl_append]; rfl
theorem stC_nonneg {p : PricesT} {w v : List Bs} (h : OkP p) {s : StepT} (hs : s ∈ stepsL p w v) : 0 ≤ stC p w v s := by
  obtain ⟨k, x, y, c, rfl, _, _, _, _, _, _, h6, _⟩ := stepsL_inv h hs
  have := pr_nonneg p (w.drop x) (v.drop y)
  simp [stC]; omega
theorem minN_nonneg {p : PricesT} {w v : List Bs} (h : OkP p) {n : Nat} (hn : 0 < n) (hl : n ≤ (stepsL p w v).length) : 0 ≤ minN p w v n := by
  obtain ⟨m, rfl⟩ : ∃ m, n = m + 1 := ⟨n - 1, by omega⟩
  rw [minN_succ p w v (by omega)]
  exact (bst_some (stC_nonneg h (List.getElem_mem _))).2
theorem minN_all {p : PricesT} {w v : List Bs} (h : OkP p) (hn : ¬ (w = [] ∧ v = [])) : minN p w v (stepsL p w v).length = pr p w v := by
  have h1 : 0 < (stepsL p w v).length := List.length_pos_iff.2 (stepsL_ne hn)
  have h2 := minN_nonneg h h1 (Nat.le_refl _)
  have h3 := pr_steps p w v
  have h4 : minN p w v (stepsL p w v).length = ((stepsL p w v).map (stC p w v)).foldl bstI (-1) := by unfold minN; rw [List.take_length]
  rw [h4] at h2 ⊢
  omega
theorem pr_nil {p : PricesT} (h : OkP p) : pr p [] [] = 0 := pr_self h []

/-! The table of the reference. -/
def rowF (p : PricesT) (a b : List Bs) (i : Nat) : List Int := (List.range (b.length + 1)).map fun k => pr p (a.drop i) (b.drop k)
def curF (p : PricesT) (a b : List Bs) (i J : Nat) : List Int := (List.range (b.length + 1)).map fun k => if J ≤ k then pr p (a.drop i) (b.drop k) else 0
def rowsF (p : PricesT) (a b : List Bs) (I : Nat) : List PV := (List.range (a.length + 1)).map fun i => if I ≤ i then .sl 1 ((rowF p a b i).map tI) else .sl 1 []
theorem rowsF_len (p : PricesT) (a b : List Bs) (I : Nat) : (rowsF p a b I).length = a.length + 1 := by simp [rowsF]
theorem curF_len (p : PricesT) (a b : List Bs) (i J : Nat) : (curF p a b i J).length = b.length + 1 := by simp [curF]
theorem rowsF_start (p : PricesT) (a b : List Bs) : rowsF p a b (a.length + 1) = List.replicate (a.length + 1) (.sl 1 []) := by
  apply List.ext_getElem (by simp [rowsF])
  intro i h1 h2
  simp [rowsF]
  intro h; simp at h2; omega
theorem rowsF_at (p : PricesT) (a b : List Bs) {I i : Nat} (h : I ≤ i) (hi : i ≤ a.length) : (rowsF p a b I)[i]? = some (.sl 1 ((rowF p a b i).map tI)) := by
  unfold rowsF; rw [List.getElem?_map, List.getElem?_range (by omega)]; simp [h]
theorem rowF_at (p : PricesT) (a b : List Bs) {i k : Nat} (hk : k ≤ b.length) : (rowF p a b i)[k]? = some (pr p (a.drop i) (b.drop k)) := by
  unfold rowF; rw [List.getElem?_map, List.getElem?_range (by omega)]; rfl
theorem curF_at (p : PricesT) (a b : List Bs) {i J k : Nat} (h : J ≤ k) (hk : k ≤ b.length) : (curF p a b i J)[k]? = some (pr p (a.drop i) (b.drop k)) := by
  unfold curF; rw [List.getElem?_map, List.getElem?_range (by omega)]; simp [h]
theorem rowsF_set (p : PricesT) (a b : List Bs) {i : Nat} (hi : i ≤ a.length) : (rowsF p a b (i + 1)).set i (.sl 1 ((curF p a b i 0).map tI)) = rowsF p a b i := by
  apply List.ext_getElem (by simp [rowsF])
  intro j h1 h2
  simp only [rowsF, List.length_map, List.length_range] at h2
  rw [List.getElem_set]
  simp only [rowsF, List.getElem_map, List.getElem_range]
  by_cases h : i = j
  · subst h; simp [curF, rowF]
  · rw [if_neg h]
    by_cases h3 : i ≤ j
    · rw [if_pos h3, if_pos (by omega)]
    · rw [if_neg h3, if_neg (by omega)]
theorem curF_set (p : PricesT) (a b : List Bs) (i : Nat) {k : Nat} (hk : k ≤ b.length) : (curF p a b i (k + 1)).set k (pr p (a.drop i) (b.drop k)) = curF p a b i k := by
  apply List.ext_getElem (by simp [curF])
  intro j h1 h2
  rw [List.getElem_set]
  simp only [curF, List.getElem_map, List.getElem_range]
  by_cases h : k = j
  · subst h; simp
  · rw [if_neg h]
    by_cases h3 : k ≤ j
    · rw [if_pos h3, if_pos (by omega)]
    · rw [if_neg h3, if_neg (by omega)]
theorem curF_start (p : PricesT) (a b : List Bs) (i : Nat) : curF p a b i (b.length + 1) = List.replicate (b.length + 1) 0 := by
  apply List.ext_getElem (by simp [curF])
  intro k h1 h2
  simp [curF]
  intro h; simp at h2; omega

end Go.Proofs

/- Plain laws. -/
import Derived.Test.YtphjjlhpepmofaaSp23
set_option linter.all false
set_option maxHeartbeats 2000000
namespace Go.Proofs
open Go Go.AM
/-! Edits, and what they make of a word. -/
abbrev EditT := Int × Int × Bs × Unit
def editV (e : EditT) : PV := .st [.w (.int .i64 e.1), .w (.int .i64 e.2.1), .w (.string (bs e.2.2.1))]
def stpK (a : List Bs) (at_ : Nat) (k : Int) (s : Bs) : Option (List Bs × Nat) :=
  if k = 0 then (if s = [] then (match a[at_]? with | some x => some ([x], at_ + 1) | none => none) else none)
  else if k = 1 then (if s = [] ∧ at_ < a.length then some ([], at_ + 1) else none)
  else if k = 2 then (if symS s = true then some ([s], at_) else none)
  else if k = 3 then (if symS s = true then (match a[at_]? with | some x => if s = x then none else some ([s], at_ + 1) | none => none) else none)
  else if k = 4 then (if s = [] then (match a[at_]?, a[at_ + 1]? with | some x, some y => if x = y then none else some ([y, x], at_ + 2) | _, _ => none) else none)
  else none
def stp (a : List Bs) (at_ : Nat) (e : EditT) : Option (List Bs × Nat) := if e.2.1 = at_ then stpK a at_ e.1 e.2.2.1 else none
def plays (a : List Bs) : List EditT → Nat → List Bs → Option (List Bs × Nat)
  | [], n, out => some (out, n)
  | e :: l, n, out => match stp a n e with
    | none => none
    | some (o, m) => plays a l m (out ++ o)
/-- What edits make of a word. -/
def playF (a : List Bs) (l : List EditT) : List Bs × Int :=
  if vWord a = 0 then (if 120 < l.length then ([], 3) else match plays a l 0 [] with
    | none => ([], 1)
    | some (out, n) => if n = a.length then (if 60 < out.length then ([], 3) else (out, 0)) else ([], 1)) else ([], vWord a)
theorem symS_nil : symS [] = false := rfl
theorem stp_at {a : List Bs} {n : Nat} {e : EditT} {o : List Bs} {m : Nat} (h : stp a n e = some (o, m)) (hn : n ≤ a.length) : m ≤ a.length ∧ o.length ≤ 2 := by
  unfold stp at h
  split at h
  · unfold stpK at h
    split at h
    · split at h
      · split at h
        · rename_i x hx
          obtain ⟨h1, _⟩ := List.getElem?_eq_some_iff.1 hx
          cases h; exact ⟨by omega, by simp⟩
        · cases h
      · cases h
    split at h
    · split at h
      · cases h; exact ⟨by omega, by simp⟩
      · cases h
    split at h
    · split at h
      · cases h; exact ⟨by omega, by simp⟩
      · cases h
    split at h
    · split at h
      · split at h
        · rename_i x hx
          obtain ⟨h1, _⟩ := List.getElem?_eq_some_iff.1 hx
          split at h
          · cases h
          · cases h; exact ⟨by omega, by simp⟩
        · cases h
      · cases h
    split at h
    · split at h
      · split at h
        · rename_i x y hx hy
          obtain ⟨h1, _⟩ := List.getElem?_eq_some_iff.1 hy
          split at h
          · cases h
          · cases h; exact ⟨by omega, by simp⟩
        · cases h
      · cases h
    · cases h
  · cases h

/-! The edits of one word to another one. -/
def kindOf (p : PricesT) (w v : List Bs) : Nat :=
  if byG p (pr p) 0 w v = some (pr p w v) then 0 else if byG p (pr p) 1 w v = some (pr p w v) then 1 else if byG p (pr p) 2 w v = some (pr p w v) then 2
  else if byG p (pr p) 3 w v = some (pr p w v) then 3 else 4
theorem bst_cases {b : Int} (o : Option Int) : bst b o = b ∨ o = some (bst b o) := by
  cases o with
  | none => exact .inl rfl
  | some c => simp only [bst]; split <;> simp
theorem some_kind {p : PricesT} (h : OkP p) {w v : List Bs} (hn : w ≠ [] ∨ v ≠ []) : ∃ k, k ≤ 4 ∧ byG p (pr p) k w v = some (pr p w v) := by
  have hpos : ∀ k c, byG p (pr p) k w v = some c → 0 ≤ c := fun k c => byG_nonneg h
  have h12 : (∃ c, byG p (pr p) 1 w v = some c) ∨ ∃ c, byG p (pr p) 2 w v = some c := by
    rcases hn with hn | hn
    · cases w with
      | nil => exact absurd rfl hn
      | cons x w => exact .inl ⟨_, rfl⟩
    · cases v with
      | nil => exact absurd rfl hn
      | cons x v => exact .inr ⟨p.2.1 + pr p w v, by cases w <;> rfl⟩
  -- what the fold comes to
  have e := pr_eq p w v
  simp only [fold5] at e
  generalize hf : (fun k => byG p (pr p) k w v) = f at *
  have hf' : ∀ k, byG p (pr p) k w v = f k := fun k => by rw [← hf]
  simp only [hf'] at *
  have b0 := bst_cases (b := -1) (f 0)
  have b1 := bst_cases (b := bst (-1) (f 0)) (f 1)
  have b2 := bst_cases (b := bst (bst (-1) (f 0)) (f 1)) (f 2)
  have b3 := bst_cases (b := bst (bst (bst (-1) (f 0)) (f 1)) (f 2)) (f 3)
  have b4 := bst_cases (b := bst (bst (bst (bst (-1) (f 0)) (f 1)) (f 2)) (f 3)) (f 4)
  have n0 := bst_neg (b := -1) (by omega) (hpos 0)
  have key : 0 ≤ bst (bst (bst (bst (bst (-1) (f 0)) (f 1)) (f 2)) (f 3)) (f 4) := by
    have step : ∀ b k, 0 ≤ b → 0 ≤ bst b (f k) := fun b k hb => by
      cases hk : f k with
      | none => exact hb
      | some c => have := hpos k c hk; simp only [bst]; split <;> omega
    have fresh : ∀ b k c, f k = some c → 0 ≤ bst b (f k) := fun b k c hk => by
      rw [hk]; have := hpos k c hk; simp only [bst]; split <;> omega
    rcases h12 with ⟨c, hc⟩ | ⟨c, hc⟩
    · exact step _ 4 (step _ 3 (step _ 2 (fresh _ 1 c hc)))
    · exact step _ 4 (step _ 3 (fresh _ 2 c hc))
  have e : pr p w v = bst (bst (bst (bst (bst (-1) (f 0)) (f 1)) (f 2)) (f 3)) (f 4) := by omega
  rw [e] at *
  rcases b4 with b4 | b4
  · rw [b4] at key ⊢
    rcases b3 with b3 | b3
    · rw [b3] at key ⊢
      rcases b2 with b2 | b2
      · rw [b2] at key ⊢
        rcases b1 with b1 | b1
        · rw [b1] at key ⊢
          rcases b0 with b0 | b0
          · omega
          · exact ⟨0, by omega, b0⟩
        · exact ⟨1, by omega, b1⟩
      · exact ⟨2, by omega, b2⟩
    · exact ⟨3, by omega, b3⟩
  · exact ⟨4, by omega, b4⟩
theorem kindOf_le (p : PricesT) (w v : List Bs) : kindOf p w v ≤ 4 := by unfold kindOf; (repeat' split) <;> omega
theorem kindOf_by {p : PricesT} (h : OkP p) {w v : List Bs} (hn : w ≠ [] ∨ v ≠ []) : byG p (pr p) (kindOf p w v) w v = some (pr p w v) := by
  obtain ⟨k, hk, e⟩ := some_kind h hn
  unfold kindOf
  split
  · assumption
  split
  · assumption
  split
  · assumption
  split
  · assumption
  obtain rfl | rfl | rfl | rfl | rfl : k = 0 ∨ k = 1 ∨ k = 2 ∨ k = 3 ∨ k = 4 := by omega
  · contradiction
  · contradiction
  · contradiction
  · contradiction
  · exact e
/-- How far a kind of edit goes in both words, and what it names. -/
def kA (k : Nat) : Nat := match k with | 0 | 1 | 3 => 1 | 2 => 0 | _ => 2
def kB (k : Nat) : Nat := match k with | 0 | 2 | 3 => 1 | 1 => 0 | _ => 2
def kS (k : Nat) (v : List Bs) : Bs := match k with | 2 | 3 => v.headD [] | _ => []
def edL (p : PricesT) : Nat → Nat → List Bs → List Bs → List EditT
  | 0, _, _, _ => []
  | n + 1, i, w, v => if w = [] ∧ v = [] then [] else
    ((kindOf p w v : Nat), (i : Nat), kS (kindOf p w v) v, ()) :: edL p n (i + kA (kindOf p w v)) (w.drop (kA (kindOf p w v))) (v.drop (kB (kindOf p w v)))
def edF (p : PricesT) (a b : List Bs) : List EditT := edL p (a.length + b.length) 0 a b

/-- What there is to do if a kind of edit can be. -/
theorem byG_inv {p : PricesT} {k : Nat} {w v : List Bs} {c : Int} (h : byG p (pr p) k w v = some c) :
    (k = 0 ∧ ∃ x w' v', w = x :: w' ∧ v = x :: v' ∧ c = pr p w' v') ∨ (k = 1 ∧ ∃ x w', w = x :: w' ∧ c = p.1 + pr p w' v) ∨ (k = 2 ∧ ∃ y v', v = y :: v' ∧ c = p.2.1 + pr p w v') ∨
    (k = 3 ∧ ∃ x w' y v', w = x :: w' ∧ v = y :: v' ∧ x ≠ y ∧ c = chg p x y + pr p w' v') ∨ (k = 4 ∧ ∃ x y w' v', w = x :: y :: w' ∧ v = y :: x :: v' ∧ x ≠ y ∧ c = p.2.2.1 + pr p w' v') := by
  rcases k with _ | _ | _ | _ | _ | k
  · left
    rcases w with _ | ⟨x, w⟩ <;> rcases v with _ | ⟨y, v⟩ <;> simp only [byG] at h
    · cases h
    · cases h
    · cases h
    · split at h
      · rename_i e; subst e; cases h; exact ⟨rfl, x, w, v, rfl, rfl, rfl⟩
      · cases h
  · right; left
    rcases w with _ | ⟨x, w⟩ <;> simp only [byG] at h
    · cases h
    · cases h; exact ⟨rfl, x, w, rfl, rfl⟩
  · right; right; left
    rcases v with _ | ⟨x, v⟩ <;> simp only [byG] at h
    · cases h
    · cases h; exact ⟨rfl, x, v, rfl, rfl⟩
  · right; right; right; left
    rcases w with _ | ⟨x, w⟩ <;> rcases v with _ | ⟨y, v⟩ <;> simp only [byG] at h
    · cases h
    · cases h
    · cases h
    · split at h
      · cases h
      · rename_i e; cases h; exact ⟨rfl, x, w, y, v, rfl, rfl, e, rfl⟩
  · right; right; right; right
    rcases w with _ | ⟨x, _ | ⟨x2, w⟩⟩ <;> rcases v with _ | ⟨y, _ | ⟨y2, v⟩⟩ <;> simp only [byG] at h
    all_goals first
      | (cases h; done)
      | (split at h
         · rename_i e
           obtain ⟨_, e1, e2, e3⟩ := e
           subst e2 e3
           cases h
           exact ⟨rfl, x, x2, w, v, rfl, rfl, e1, rfl⟩
         · cases h)
  · simp [byG] at h

/-- The costs of edits. -/
def costE (p : PricesT) (a : List Bs) (e : EditT) : Int :=
  if e.1 = 1 then p.1 else if e.1 = 2 then p.2.1 else if e.1 = 3 then chg p (a[e.2.1.toNat]?.getD []) e.2.2.1 else if e.1 = 4 then p.2.2.1 else 0
def costs (p : PricesT) (a : List Bs) : List EditT → Int
  | [] => 0
  | e :: l => costE p a e + costs p a l

/-- Edits that are played make the other word, and cost as much as its price. -/
theorem edL_plays {p : PricesT} (h : OkP p) (a b : List Bs) (hb : ∀ s ∈ b, symS s = true) : ∀ (n i j : Nat), i ≤ a.length → j ≤ b.length → (a.length - i) + (b.length - j) ≤ n →
    plays a (edL p n i (a.drop i) (b.drop j)) i (b.take j) = some (b, a.length) ∧ (edL p n i (a.drop i) (b.drop j)).length ≤ n ∧
    costs p a (edL p n i (a.drop i) (b.drop j)) = pr p (a.drop i) (b.drop j) ∧ ∀ e ∈ edL p n i (a.drop i) (b.drop j), e.1 = 3 → 0 ≤ e.2.1 ∧ e.2.1 < a.length
  | 0, i, j, hi, hj, hn => by
    have e1 : a.drop i = [] := List.drop_of_length_le (by omega)
    have e2 : b.drop j = [] := List.drop_of_length_le (by omega)
    have e3 : b.take j = b := List.take_of_length_le (by omega)
    have e4 : i = a.length := by omega
    rw [e1, e2, e3, e4]
    refine ⟨rfl, by simp [edL], ?_, by simp [edL]⟩
    have := pr_self h []
    simp [edL, costs, this]
  | n + 1, i, j, hi, hj, hn => by
    by_cases hz : a.drop i = [] ∧ b.drop j = []
    · have e3 : b.take j = b := List.take_of_length_le (by have := hz.2; simp at this; omega)
      have e4 : i = a.length := by have := hz.1; simp at this; omega
      have e5 : edL p (n + 1) i (a.drop i) (b.drop j) = [] := by unfold edL; rw [if_pos hz]
      rw [e5, hz.1, hz.2, e3, e4]
      refine ⟨rfl, by simp, ?_, by simp⟩
      have := pr_self h []
      simp [costs, this]
    · have hk := kindOf_by h (w := a.drop i) (v := b.drop j) (by
        by_cases h1 : a.drop i = []
        · exact .inr fun h2 => hz ⟨h1, h2⟩
        · exact .inl h1)
      have e5 : edL p (n + 1) i (a.drop i) (b.drop j) = (((kindOf p (a.drop i) (b.drop j) : Nat) : Int), ((i : Nat) : Int), kS (kindOf p (a.drop i) (b.drop j)) (b.drop j), ()) :: edL p n (i + kA (kindOf p (a.drop i) (b.drop j))) ((a.drop i).drop (kA (kindOf p (a.drop i) (b.drop j)))) ((b.drop j).drop (kB (kindOf p (a.drop i) (b.drop j)))) := by
        conv => lhs; unfold edL
        rw [if_neg hz]
      generalize kindOf p (a.drop i) (b.drop j) = k at *
      rw [e5, List.drop_drop, List.drop_drop]
      have hlt : ∀ {x : Bs} {w : List Bs}, a.drop i = x :: w → i < a.length ∧ a[i]? = some x ∧ a.drop (i + 1) = w := by
        intro x w hw
        have hlt : i < a.length := by
          rcases Nat.lt_or_ge i a.length with h1 | h1
          · exact h1
          · rw [List.drop_of_length_le h1] at hw; cases hw
        rw [drop_at hlt] at hw
        injection hw with q1 q2
        exact ⟨hlt, by rw [List.getElem?_eq_getElem hlt, q1], q2⟩
      have hlt' : ∀ {x : Bs} {w : List Bs}, b.drop j = x :: w → j < b.length ∧ b[j]? = some x ∧ b.drop (j + 1) = w ∧ b.take (j + 1) = b.take j ++ [x] ∧ symS x = true := by
        intro x w hw
        have hlt : j < b.length := by
          rcases Nat.lt_or_ge j b.length with h1 | h1
          · exact h1
          · rw [List.drop_of_length_le h1] at hw; cases hw
        rw [drop_at hlt] at hw
        injection hw with q1 q2
        exact ⟨hlt, by rw [List.getElem?_eq_getElem hlt, q1], q2, by rw [List.take_succ_eq_append_getElem hlt, q1], by rw [← q1]; exact hb _ (List.getElem_mem hlt)⟩
      rcases byG_inv hk with ⟨rfl, x, w', v', hw, hv, hc⟩ | ⟨rfl, x, w', hw, hc⟩ | ⟨rfl, y, v', hv, hc⟩ | ⟨rfl, x, w', y, v', hw, hv, hxy, hc⟩ | ⟨rfl, x, y, w', v', hw, hv, hxy, hc⟩
      · obtain ⟨a1, a2, a3⟩ := hlt hw
        obtain ⟨b1, b2, b3, b4, b5⟩ := hlt' hv
        obtain ⟨q1, q2, q3, q4⟩ := edL_plays h a b hb n (i + 1) (j + 1) (by omega) (by omega) (by omega)
        refine ⟨?_, by simp only [List.length_cons, kA, kB]; omega, ?_, ?_⟩
        · simp only [plays, stp, stpK, kS, kA, kB, a2]
          simp only [if_true, Int.natCast_zero]
          rw [← b4]; exact q1
        · simp only [costs, costE, kA, kB, kS]
          rw [q3, hc, a3, b3]; simp
        · intro e he
          rcases List.mem_cons.1 he with rfl | he
          · intro h3; simp at h3
          · exact q4 e he
      · obtain ⟨a1, a2, a3⟩ := hlt hw
        obtain ⟨q1, q2, q3, q4⟩ := edL_plays h a b hb n (i + 1) j (by omega) (by omega) (by omega)
        refine ⟨?_, by simp only [List.length_cons, kA, kB, Nat.add_zero]; omega, ?_, ?_⟩
        · simp only [plays, stp, stpK, kS, kA, kB, a1]
          simpa using q1
        · simp only [costs, costE, kA, kB, kS, Nat.add_zero]
          rw [q3, hc, a3]; simp
        · intro e he
          rcases List.mem_cons.1 he with rfl | he
          · intro h3; simp at h3
          · exact q4 e he
      · obtain ⟨b1, b2, b3, b4, b5⟩ := hlt' hv
        obtain ⟨q1, q2, q3, q4⟩ := edL_plays h a b hb n i (j + 1) (by omega) (by omega) (by omega)
        have e6 : (b.drop j).headD [] = y := by rw [hv]; rfl
        refine ⟨?_, by simp only [List.length_cons, kA, kB, Nat.add_zero]; omega, ?_, ?_⟩
        · simp only [plays, stp, stpK, kS, kA, kB, e6, b5]
          simpa [b4] using q1
        · simp only [costs, costE, kA, kB, kS, Nat.add_zero]
          rw [q3, hc, b3]; simp
        · intro e he
          rcases List.mem_cons.1 he with rfl | he
          · intro h3; simp at h3
          · exact q4 e he
      · obtain ⟨a1, a2, a3⟩ := hlt hw
        obtain ⟨b1, b2, b3, b4, b5⟩ := hlt' hv
        obtain ⟨q1, q2, q3, q4⟩ := edL_plays h a b hb n (i + 1) (j + 1) (by omega) (by omega) (by omega)
        have e6 : (b.drop j).headD [] = y := by rw [hv]; rfl
        refine ⟨?_, by simp only [List.length_cons, kA, kB]; omega, ?_, ?_⟩
        · simp only [plays, stp, stpK, kS, kA, kB, e6, b5, a2]
          rw [b4] at q1
          simpa [Ne.symm hxy] using q1
        · simp only [costs, costE, kA, kB, kS, e6, Int.toNat_natCast, a2]
          rw [q3, hc, a3, b3]; simp
        · intro e he
          rcases List.mem_cons.1 he with rfl | he
          · intro _; exact ⟨by simp, by simp; omega⟩
          · exact q4 e he
      · obtain ⟨a1, a2, a3⟩ := hlt hw
        obtain ⟨b1, b2, b3, b4, b5⟩ := hlt' hv
        have g : i + 1 < a.length ∧ a[i + 1]? = some y ∧ a.drop (i + 2) = w' := by
          have hlt : i + 1 < a.length := by
            rcases Nat.lt_or_ge (i + 1) a.length with h1 | h1
            · exact h1
            · rw [List.drop_of_length_le h1] at a3; cases a3
          rw [drop_at hlt] at a3
          injection a3 with q1 q2
          exact ⟨hlt, by rw [List.getElem?_eq_getElem hlt, q1], q2⟩
        have g' : j + 1 < b.length ∧ b.drop (j + 2) = v' ∧ b.take (j + 2) = b.take j ++ [y, x] := by
          have hlt : j + 1 < b.length := by
            rcases Nat.lt_or_ge (j + 1) b.length with h1 | h1
            · exact h1
            · rw [List.drop_of_length_le h1] at b3; cases b3
          rw [drop_at hlt] at b3
          injection b3 with q1 q2
          exact ⟨hlt, q2, by rw [List.take_succ_eq_append_getElem hlt, q1, b4]; simp⟩
        obtain ⟨q1, q2, q3, q4⟩ := edL_plays h a b hb n (i + 2) (j + 2) (by omega) (by omega) (by omega)
        refine ⟨?_, by simp only [List.length_cons, kA, kB]; omega, ?_, ?_⟩
        · simp only [plays, stp, stpK, kS, kA, kB, a2, g.2.1]
          rw [g'.2.2] at q1
          simpa [hxy] using q1
        · simp only [costs, costE, kA, kB, kS]
          rw [q3, hc, g.2.2, g'.2.1]; simp
        · intro e he
          rcases List.mem_cons.1 he with rfl | he
          · intro h3; simp at h3
          · exact q4 e he

end Go.Proofs

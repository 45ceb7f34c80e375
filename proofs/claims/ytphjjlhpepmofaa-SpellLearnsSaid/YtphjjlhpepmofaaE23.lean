/- Plain laws. -/
import Derived.Test.YtphjjlhpepmofaaSt23
set_option linter.all false
set_option maxHeartbeats 2000000
namespace Go.Proofs
open Go Go.AM
theorem stG_k {p : PricesT} {k : Nat} {w v : List Bs} {x y : Nat} {c : Int} (h : stG p k w v = some (x, y, c)) : x = kA k ∧ y = kB k := by
  rcases k with _ | _ | _ | _ | _ | k
  · rcases w with _ | ⟨a, w⟩ <;> rcases v with _ | ⟨b, v⟩ <;> simp only [stG] at h
    · cases h
    · cases h
    · cases h
    · split at h
      · cases h; exact ⟨rfl, rfl⟩
      · cases h
  · rcases w with _ | ⟨a, w⟩ <;> simp only [stG] at h
    · cases h
    · cases h; exact ⟨rfl, rfl⟩
  · rcases v with _ | ⟨a, v⟩
    · simp [stG] at h
    · simp only [stG] at h; cases h; exact ⟨rfl, rfl⟩
  · rcases w with _ | ⟨a, w⟩ <;> rcases v with _ | ⟨b, v⟩ <;> simp only [stG] at h
    · cases h
    · cases h
    · cases h
    · split at h
      · cases h
      · cases h; exact ⟨rfl, rfl⟩
  · rcases w with _ | ⟨a, _ | ⟨a2, w⟩⟩ <;> rcases v with _ | ⟨b, _ | ⟨b2, v⟩⟩ <;> simp only [stG] at h
    all_goals first
      | (cases h; done)
      | (split at h
         · cases h; exact ⟨rfl, rfl⟩
         · cases h)
  · simp [stG] at h
/-- Whether a step costs the price. -/
def hit (p : PricesT) (w v : List Bs) (s : StepT) : Bool := decide (stC p w v s = pr p w v)
theorem find_stL (p : PricesT) (w v : List Bs) (k : Nat) : (stL p k w v).find? (hit p w v) = if byG p (pr p) k w v = some (pr p w v) then (stL p k w v).head? else none := by
  rw [byG_st]
  unfold stL
  cases h : stG p k w v with
  | none => simp
  | some r =>
    obtain ⟨x, y, c⟩ := r
    simp only [List.find?_cons, hit, stC, Option.map_some, Option.some.injEq, List.find?_nil, List.head?_cons, Int.toNat_natCast]
    by_cases hc : c + pr p (w.drop x) (v.drop y) = pr p w v
    · simp [hc]
    · simp [hc]
/-- The step of a kind. -/
@[reducible] def kStep (k : Nat) (c : Int) : StepT := ((k : Int), ((kA k : Nat) : Int), ((kB k : Nat) : Int), c, ())
theorem head_stL {p : PricesT} {w v : List Bs} {k : Nat} (h : byG p (pr p) k w v = some (pr p w v)) : ∃ c, (stL p k w v).head? = some (kStep k c) := by
  rw [byG_st] at h
  cases hs : stG p k w v with
  | none => rw [hs] at h; cases h
  | some r =>
    obtain ⟨x, y, c⟩ := r
    obtain ⟨rfl, rfl⟩ := stG_k hs
    exact ⟨c, by unfold stL; rw [hs]; rfl⟩
/-- The first step that costs the price is the first kind that does. -/
theorem find_steps {p : PricesT} (h : OkP p) {w v : List Bs} (hn : ¬ (w = [] ∧ v = [])) : ∃ c, (stepsL p w v).find? (hit p w v) = some (kStep (kindOf p w v) c) := by
  have hby := kindOf_by h (w := w) (v := v) (by
    by_cases h1 : w = []
    · exact .inr fun h2 => hn ⟨h1, h2⟩
    · exact .inl h1)
  unfold stepsL
  simp only [List.find?_append, find_stL]
  unfold kindOf at *
  by_cases h0 : byG p (pr p) 0 w v = some (pr p w v)
  · rw [if_pos h0] at *
    obtain ⟨c, e⟩ := head_stL h0
    exact ⟨c, by rw [if_pos h0, e]; rfl⟩
  · rw [if_neg h0] at *
    by_cases h1 : byG p (pr p) 1 w v = some (pr p w v)
    · rw [if_pos h1] at *
      obtain ⟨c, e⟩ := head_stL h1
      exact ⟨c, by rw [if_neg h0, if_pos h1, e]; rfl⟩
    · rw [if_neg h1] at *
      by_cases h2 : byG p (pr p) 2 w v = some (pr p w v)
      · rw [if_pos h2] at *
        obtain ⟨c, e⟩ := head_stL h2
        exact ⟨c, by rw [if_neg h0, if_neg h1, if_pos h2, e]; rfl⟩
      · rw [if_neg h2] at *
        by_cases h3 : byG p (pr p) 3 w v = some (pr p w v)
        · rw [if_pos h3] at *
          obtain ⟨c, e⟩ := head_stL h3
          exact ⟨c, by rw [if_neg h0, if_neg h1, if_neg h2, if_pos h3, e]; rfl⟩
        · rw [if_neg h3] at *
          obtain ⟨c, e⟩ := head_stL hby
          exact ⟨c, by rw [if_neg h0, if_neg h1, if_neg h2, if_neg h3, if_pos hby, e]; rfl⟩
/-- The same, by its place. -/
theorem first_step {p : PricesT} (h : OkP p) {w v : List Bs} (hn : ¬ (w = [] ∧ v = [])) {n : Nat} (hl : n < (stepsL p w v).length) (hb : ∀ m (hm : m < (stepsL p w v).length), m < n → hit p w v (stepsL p w v)[m] = false) (hh : hit p w v (stepsL p w v)[n] = true) :
    ∃ c, (stepsL p w v)[n] = kStep (kindOf p w v) c := by
  obtain ⟨c, e⟩ := find_steps h hn
  refine ⟨c, ?_⟩
  have : (stepsL p w v).find? (hit p w v) = some (stepsL p w v)[n] := by
    rw [List.find?_eq_some_iff_getElem]
    exact ⟨hh, n, hl, rfl, fun j hj => by rw [hb j (by omega) hj]; rfl⟩
  rw [e] at this
  exact (Option.some.inj this).symm
/-- There is one. -/
theorem some_step {p : PricesT} (h : OkP p) {w v : List Bs} (hn : ¬ (w = [] ∧ v = [])) : ∃ m, ∃ hm : m < (stepsL p w v).length, hit p w v (stepsL p w v)[m] = true := by
  obtain ⟨c, e⟩ := find_steps h hn
  rw [List.find?_eq_some_iff_getElem] at e
  obtain ⟨h1, i, h2, h3, _⟩ := e
  exact ⟨i, h2, by rw [h3]; exact h1⟩

end Go.Proofs

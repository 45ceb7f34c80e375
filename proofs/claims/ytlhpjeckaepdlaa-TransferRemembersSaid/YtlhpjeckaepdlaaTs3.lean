/- The walk. -/
import Derived.Test.YtlhpjeckaepdlaaTs2
import Derived.Test.YtlhpjeckaepdlaaProg
import Derived.KernelRfl
set_option linter.all false
set_option maxHeartbeats 2000000
namespace Go.Proofs
open Go Go.AM
attribute [local irreducible] Run Ends
def fitsF : List (List Bs) → List UnitT → Bool
  | [], _ => true
  | _ :: _, [] => false
  | s :: p, u :: l => hasU u s && fitsF p l
theorem fitsF_le : ∀ {p : List (List Bs)} {l : List UnitT}, fitsF p l = true → p.length ≤ l.length
  | [], _, _ => by simp
  | _ :: _, [], h => by simp [fitsF] at h
  | _ :: p, _ :: l, h => by
    simp only [fitsF, Bool.and_eq_true] at h
    have := fitsF_le h.2
    simp; omega
def better (b : Option (Nat × Nat)) (m : Nat) : Bool := match b with
  | none => true
  | some (_, n) => decide (n < m)
def ruleO (l : List UnitT) : List ShufT → Nat → Option (Nat × Nat) → Option (Nat × Nat)
  | [], _, b => b
  | r :: rs, i, b => if (fitsF r.1 l && better b r.1.length) = true then ruleO l rs (i + 1) (some (i, r.1.length)) else ruleO l rs (i + 1) b
def bI : Option (Nat × Nat) → Int
  | none => -1
  | some (k, _) => k
def okB (S : List ShufT) (l : List UnitT) (b : Option (Nat × Nat)) : Prop := ∀ k n, b = some (k, n) → n ≤ l.length ∧ ∃ h : k < S.length, S[k].1.length = n
theorem okB_none (S : List ShufT) (l : List UnitT) : okB S l none := fun _ _ h => by cases h
theorem ruleO_ok (S : List ShufT) (l : List UnitT) : ∀ (rs : List ShufT) (i : Nat) (b : Option (Nat × Nat)), S.drop i = rs → okB S l b → okB S l (ruleO l rs i b)
  | [], _, _, _, hb => hb
  | r :: rs, i, b, hd, hb => by
    have hi : i < S.length := by
      by_cases h : i < S.length
      · exact h
      · rw [List.drop_eq_nil_of_le (by omega)] at hd; cases hd
    rw [List.drop_eq_getElem_cons hi] at hd
    injection hd with h1 h2
    simp only [ruleO]
    split
    · rename_i hc
      simp only [Bool.and_eq_true] at hc
      refine ruleO_ok S l rs (i + 1) _ h2 fun k n h => ?_
      cases h
      exact ⟨fitsF_le hc.1, hi, by rw [h1]⟩
    · exact ruleO_ok S l rs (i + 1) b h2 hb
theorem fok96 (b : BrT) (l : List UnitT) (hb : brS b) (hl : l.length ≤ 200000000000000) (hu : ∀ u ∈ l, unitS u) : FOk Try.prog 96 [.v (brV b), .v (.sl 2 (l.map unitV))] [] (.I (bI (ruleO l b.2.1 0 none))) [] := by
  obtain ⟨R, S, u⟩ := b
  obtain ⟨b1, b2, b3, b4⟩ := hb
  simp only at b1 b2 b3 b4
  refine FOk.val k96 (by simp) (by simp) (by decide) ?_
  simp [c96, brV]
  refine Run.loopA (ι := Nat × Option (Nat × Nat)) [(1, 2)] (fun q => q.1 ≤ S.length ∧ okB S l q.2 ∧ ruleO l (S.drop q.1) q.1 q.2 = ruleO l S 0 none) (fun q => ⟨[(1, .v (.sl 2 (l.map unitV))), (2, .ptr 1 0 0), (5, .I (bI q.2)), (13, .v (.sl 2 (S.map shufV))), (14, .I S.length), (15, .I q.1)], [(1, ⟨false, 2, [brV (R, S, u)]⟩)], 1024⟩) (fun q => S.length - q.1) (0, none) (by decide) (by simp [brV, bI]) ⟨by simp, okB_none S l, by simp⟩ ?_
  rintro ⟨i, best⟩ ⟨hi, hok, hall⟩ ih
  simp only at hi hok hall ih
  by_cases h : i < S.length
  · rw [drop_at h] at hall
    simp only [ruleO] at hall
    have hs := b4 _ (List.getElem_mem h)
    generalize hx : S[i] = r at hs hall
    obtain ⟨p, o, u2⟩ := r
    obtain ⟨p1, p2, p3, p4⟩ := hs
    simp only at p1 p2 p3 p4 hall
    have skip : (fitsF p l && better best p.length) = false → ∀ s', Le 0 (kpA s'.env [(1, 2)]) s' ⟨[(1, .v (.sl 2 (l.map unitV))), (2, .ptr 1 0 0), (5, .I (bI best)), (13, .v (.sl 2 (S.map shufV))), (14, .I S.length), (15, .I ((i + 1 : Nat) : Int))], [(1, ⟨false, 2, [brV (R, S, u)]⟩)], 1024⟩ → _ := fun q s' hle => ih (i + 1, best) s' ⟨by simp; omega, hok, by rw [q] at hall; simpa using hall⟩ (by simp; omega) hle
    by_cases c1 : l.length < p.length
    · have hf : fitsF p l = false := by
        cases q : fitsF p l
        · rfl
        · have := fitsF_le q; omega
      simp (disch := omega) [h, wrap_i64, hx, shufV, wordsV, c1]
      exact skip (by simp [hf]) _ (by simp [brV])
    rcases best with _ | ⟨k, n⟩
    · simp (disch := omega) [h, wrap_i64, hx, shufV, wordsV, c1, bI]
      rw [show better none p.length = true from rfl, Bool.and_true] at hall
      clear skip
      refine Run.loopA (ι := Nat × Bool) [(1, 2)] (fun q => q.1 ≤ p.length ∧ (q.2 && fitsF (p.drop q.1) (l.drop q.1)) = fitsF p l) (fun q => ⟨[(1, .v (.sl 2 (l.map unitV))), (2, .ptr 1 0 0), (5, .I (bI none)), (6, .I i), (9, .B q.2), (13, .v (.sl 2 (S.map shufV))), (14, .I S.length), (15, .I i), (43, .v (.sl 1 (p.map PV.word))), (44, .I p.length), (45, .I q.1)], [(1, ⟨false, 2, [brV (R, S, u)]⟩)], 1024⟩) (fun q => p.length - q.1) (0, true) (by decide) (by simp [brV, bI]) ⟨by simp, by simp⟩ ?_
      rintro ⟨k2, x⟩ ⟨hk2, hfit⟩ ih2
      simp only at hk2 hfit ih2
      by_cases g : k2 < p.length
      · have gl : k2 < l.length := by omega
        rw [drop_at g, drop_at gl] at hfit
        simp only [fitsF] at hfit
        have hcall := fok103 l[k2] p[k2] (hu _ (List.getElem_mem gl)) (p2 _ (List.getElem_mem g)).1
        generalize hasU l[k2] p[k2] = y at hcall hfit
        cases x
        · simp (disch := omega) [g, wrap_i64]
          exact ih2 (k2 + 1, false) _ ⟨by simp; omega, by simpa using hfit⟩ (by simp; omega) (by simp [brV, bI])
        · generalize hz : l[k2] = z at hcall
          obtain ⟨zb, zt, zu⟩ := z
          simp [unitV] at hcall
          simp (disch := omega) [g, gl, hz, wrap_i64, unitV]
          refine CallG.lent rfl rfl rfl rfl hcall rfl ?_
          simp (disch := omega) [wrap_i64]
          exact ih2 (k2 + 1, y) _ ⟨by simp; omega, by simpa using hfit⟩ (by simp; omega) (by simp [brV, bI])
      · rw [drop_no g] at hfit
        simp only [fitsF, Bool.and_true] at hfit
        rw [← hfit] at hall
        cases x
        · simp (disch := omega) [g, wrap_i64]
          exact ih (i + 1, none) _ ⟨by simp; omega, hok, by simpa using hall⟩ (by simp; omega) (by simp [brV, bI])
        · simp (disch := omega) [g, wrap_i64]
          exact ih (i + 1, some (i, p.length)) _ ⟨by simp; omega, fun k n e => (by cases e; exact ⟨by omega, h, by rw [hx]⟩), by simpa using hall⟩ (by simp; omega) (by simp [brV, bI])
    · obtain ⟨hn, hk, hkn⟩ := hok k n rfl
      by_cases c2 : p.length ≤ n
      · generalize hy : S[k] = y at hkn
        obtain ⟨py, oy, uy⟩ := y
        simp only at hkn
        have c2' : p.length ≤ py.length := by omega
        have hk2 : ¬ (k : Int) < 0 := by omega
        simp (disch := omega) [h, wrap_i64, hx, shufV, wordsV, c1, bI, hk, hk2, hy, brV, c2']
        exact skip (by simp [better]; omega) _ (by simp [brV, bI])
      · generalize hy : S[k] = y at hkn
        obtain ⟨py, oy, uy⟩ := y
        simp only at hkn
        have c2' : ¬ p.length ≤ py.length := by omega
        have hk2 : ¬ (k : Int) < 0 := by omega
        simp (disch := omega) [h, wrap_i64, hx, shufV, wordsV, c1, bI, hk, hk2, hy, brV, c2']
        clear hy c2' hk2
        rw [show better (some (k, n)) p.length = true from (by simp [better]; omega), Bool.and_true] at hall
        clear skip
        refine Run.loopA (ι := Nat × Bool) [(1, 2)] (fun q => q.1 ≤ p.length ∧ (q.2 && fitsF (p.drop q.1) (l.drop q.1)) = fitsF p l) (fun q => ⟨[(1, .v (.sl 2 (l.map unitV))), (2, .ptr 1 0 0), (5, .I (bI (some (k, n)))), (6, .I i), (9, .B q.2), (13, .v (.sl 2 (S.map shufV))), (14, .I S.length), (15, .I i), (43, .v (.sl 1 (p.map PV.word))), (44, .I p.length), (45, .I q.1)], [(1, ⟨false, 2, [brV (R, S, u)]⟩)], 1024⟩) (fun q => p.length - q.1) (0, true) (by decide) (by simp [brV, bI]) ⟨by simp, by simp⟩ ?_
        rintro ⟨k2, x⟩ ⟨hk2, hfit⟩ ih2
        simp only at hk2 hfit ih2
        by_cases g : k2 < p.length
        · have gl : k2 < l.length := by omega
          rw [drop_at g, drop_at gl] at hfit
          simp only [fitsF] at hfit
          have hcall := fok103 l[k2] p[k2] (hu _ (List.getElem_mem gl)) (p2 _ (List.getElem_mem g)).1
          generalize hasU l[k2] p[k2] = y at hcall hfit
          cases x
          · simp (disch := omega) [g, wrap_i64]
            exact ih2 (k2 + 1, false) _ ⟨by simp; omega, by simpa using hfit⟩ (by simp; omega) (by simp [brV, bI])
          · generalize hz : l[k2] = z at hcall
            obtain ⟨zb, zt, zu⟩ := z
            simp [unitV] at hcall
            simp (disch := omega) [g, gl, hz, wrap_i64, unitV]
            refine CallG.lent rfl rfl rfl rfl hcall rfl ?_
            simp (disch := omega) [wrap_i64]
            exact ih2 (k2 + 1, y) _ ⟨by simp; omega, by simpa using hfit⟩ (by simp; omega) (by simp [brV, bI])
        · rw [drop_no g] at hfit
          simp only [fitsF, Bool.and_true] at hfit
          rw [← hfit] at hall
          cases x
          · simp (disch := omega) [g, wrap_i64]
            exact ih (i + 1, (some (k, n))) _ ⟨by simp; omega, hok, by simpa using hall⟩ (by simp; omega) (by simp [brV, bI])
          · simp (disch := omega) [g, wrap_i64]
            exact ih (i + 1, some (i, p.length)) _ ⟨by simp; omega, fun k n e => (by cases e; exact ⟨by omega, h, by rw [hx]⟩), by simpa using hall⟩ (by simp; omega) (by simp [brV, bI])
  · rw [drop_no h] at hall
    simp only [ruleO] at hall
    simp [h]
    exact Ends.v rfl (by simp [hall])

end Go.Proofs

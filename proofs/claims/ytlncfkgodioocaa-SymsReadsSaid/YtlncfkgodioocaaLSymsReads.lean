/- For every text SymsReads answers true: the program and the reference read the same word of it, with the same code. -/
import Derived.Test.YtlncfkgodioocaaS5
import Derived.Test.YtlncfkgodioocaaP4
namespace Go.Proofs.Ytlncfkgodioocaa.P
open Go.RowKit Go.Proofs.YtlncfkgodioocaaW.PrintWords

theorem readL_len : ∀ (n : Nat) (l : List UInt8) (w : List ByteArray), readL n l = some w → w.length ≤ n
  | 0, l, w, h => by rw [readL] at h; cases h; simp
  | n + 1, [], w, h => by rw [readL] at h; cases h; simp
  | n + 1, c :: t, w, h => by
    rw [readL] at h
    have key : ∀ (o : Option (List ByteArray)) (x : ByteArray), (∀ v, o = some v → v.length ≤ n) → o.map (fun v => x :: v) = some w → w.length ≤ n + 1 := by
      intro o x ho hw
      cases o with
      | none => simp at hw
      | some v =>
        simp at hw
        subst hw
        have := ho v rfl
        simp; omega
    split at h
    · split at h
      · cases h
      · split at h
        · cases h
        · split at h
          · cases h
          · split at h
            · exact key _ _ (fun v hv => readL_len n _ v hv) h
            · cases h
    · split at h
      · exact key _ _ (fun v hv => readL_len n _ v hv) h
      · cases h
theorem readW_len (s : ByteArray) : (readW s).1.length ≤ 400 := by
  unfold readW
  split
  · simp
  · rename_i h
    cases hr : readL s.size s.toList with
    | none => simp [readR]
    | some w =>
      have := readL_len _ _ _ hr
      simp only [readR, List.nil_append]
      split
      · simp
      · simp; omega

theorem SymsReads_ev (s : ByteArray) (_ : s.size ≤ 140737488351232) : Ev (fun k => ablautlaw01_SymsReads.f k s) true := by
  unfold ablautlaw01_SymsReads.f
  simp only [known_true, Option.bind_some]
  by_cases h : (s.size : Int) > 4000
  · simp only [h, if_true]; exact Ev.now _
  · simp only [h, if_false]
    refine Ev.bind (syms_Read_ev s) ?_
    refine Ev.bind (ref_Read_ev s) ?_
    refine Ev.bind (Same_ev _ _ (by have := readW_len s; omega)) ?_
    simp only [decide_true, if_true]
    exact Ev.now _

end Go.Proofs.Ytlncfkgodioocaa.P

/- Plain laws. -/
import Derived.Test.YtphjjlhpepmofaaGreatAMZ
set_option linter.all false
set_option maxHeartbeats 2000000
namespace Go.Proofs
open Go Go.AM
theorem nd_len : ∀ (n : Nat) (S : List Nat), S.Nodup → (∀ j ∈ S, j < n) → S.length ≤ n
  | 0, S, _, h => by
    cases S with
    | nil => simp
    | cons a S => have := h a (by simp); omega
  | n + 1, S, hn, h => by
    by_cases hm : n ∈ S
    · have h1 := nd_len n (S.erase n) (hn.erase n) fun j hj => by
        have h2 := h j (List.mem_of_mem_erase hj)
        have h3 : j ≠ n := by rintro rfl; exact absurd hj hn.not_mem_erase
        omega
      rw [List.length_erase_of_mem hm] at h1
      omega
    · have := nd_len n S hn fun j hj => by
        have h2 := h j hj
        have h3 : j ≠ n := by rintro rfl; exact hm hj
        omega
      omega
theorem itL_last (S : List Nat) (j : Nat) : (itL (S ++ [j])).getLast? = some (.w (.int .i64 j)) := by simp [itL]

end Go.Proofs

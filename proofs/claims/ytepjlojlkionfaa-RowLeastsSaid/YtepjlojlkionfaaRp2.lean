/- The walk. -/
import Derived.Test.YtepjlojlkionfaaRp1
import Derived.Test.YtepjlojlkionfaaAM30
import Derived.Test.YtepjlojlkionfaaSC
import Derived.Test.YtepjlojlkionfaaProg
import Derived.KernelRfl
set_option linter.all false
set_option maxHeartbeats 2000000
namespace Go.Proofs
open Go Go.AM
attribute [local irreducible] Run Ends
theorem fok47 (g f : List Nat → Int) (l : List (List Nat)) (hl : l.length ≤ 1000000) (hw : ∀ a ∈ l, a.length ≤ 1000) : FOk Try.prog 47 [.h 0, .fn 48 []] [(0, ⟨false, 3, l.map (partV g f)⟩)] (.tup []) [(0, ⟨false, 3, (srt (cmpP f) l).map (partV g f)⟩)] := by
  refine FOk.sortK Try.laysF47 (k := 3) (by decide) ?_ ?_ (caps := []) (fun p => ∃ a : List Nat, a.length ≤ 1000 ∧ p = partV g f a) (fun p q => cmpP f (decP p) (decP q)) ?_ ?_ ?_ ?_ ?_ ?_ (by simp; omega)
  · intro w
    refine (AM.run_isAgg (P := Try.prog) (by kernel_rfl) w).trans (congrArg (fun b : Bool => Result.ok b w) ?_)
    kernel_rfl
  · intro w
    refine (AM.run_sizeOf (P := Try.prog) (by kernel_rfl) w).trans (congrArg (fun b : Nat => Result.ok b w) ?_)
    kernel_rfl
  · intro p hp
    obtain ⟨a, ha, rfl⟩ := List.mem_map.1 hp
    exact ⟨⟨a, hw a ha, rfl⟩, rfl⟩
  · rintro _ _ ⟨a, ha, rfl⟩ ⟨b, hb, rfl⟩
    rw [decP_part, decP_part]
    exact fok48 g f a b ha hb
  · intro p _; exact (linP f).irr _
  · intro p q r _ _ _ h1 h2; exact (linP f).tr h1 h2
  · intro p q r _ _ _ h1 h2; exact (linP f).le_tr h2 h1
  · intro m hm hs
    exact srt_pv (linP f) (decP_part g f) hm hs

end Go.Proofs

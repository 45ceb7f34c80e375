/- Plain laws. -/
import Derived.Test.YtlhpjeckaepdlaaAMZ
set_option linter.all false
set_option maxHeartbeats 2000000
namespace Go.Proofs
open Go Go.AM
/-- What stays the same value wherever it is handed. -/
structure Fix (u : AV) (f : Nat) (caps : List AV) : Prop where
  fn : fnOf u = some (f, caps)
  conv : ∀ kp H, conv kp H u = some u
  pass : ∀ b H, passA b H [] u = some u
  passC : ∀ b H, passAs b H [] caps = some caps
  frz : ∀ H, frz [] H u = H
  men : ∀ k, ¬ u.men k
theorem passAs_cons {b : Bool} {H : Heap} {u : AV} {l m : List AV} (hu : passA b H [] u = some u) (hl : passAs b H [] l = some m) : passAs b H [] (u :: l) = some (u :: m) := by simp [passAs, hu, hl]

theorem fixCl (f : Nat) (ps : List PV) (caps : List AV) (h : capAs ps = some caps) (hp : ∀ b H, passAs b H [] caps = some caps) : Fix (.v (.cl f ps)) f caps where
  fn := by simp [fnOf, h]
  conv kp H := by simp
  pass b H := by simp
  passC := hp
  frz H := by simp
  men k := by simp
theorem fixFn (f : Nat) (cs : List PV) (rest : List AV) (hp : ∀ b H, passAs b H [] rest = some rest) (hc : ∀ kp H, convs kp H rest = some rest) (hz : ∀ H, frzs [] H rest = H) (hm : ∀ k, ¬ AV.mens rest k) : Fix (.fn f (.rp cs :: rest)) f (.rp cs :: rest) where
  fn := by simp [fnOf]
  conv kp H := by simp [hc]
  pass b H := by simp [hp]
  passC b H := by simp [hp]
  frz H := by simp [hz]
  men k := by simp [hm]

theorem fixF0 (f : Nat) : Fix (.fn f []) f [] where
  fn := by simp [fnOf]
  conv kp H := by simp
  pass b H := by simp
  passC b H := by simp
  frz H := by simp
  men k := by simp

end Go.Proofs

/- The walk. -/
import Derived.Test.YtphjjlhpepmofaaGreatF5
import Derived.Test.YtphjjlhpepmofaaGreatProg
import Derived.KernelRfl
set_option linter.all false
set_option maxHeartbeats 2000000
namespace Go.Proofs
open Go Go.AM
attribute [local irreducible] Run Ends
/-- ablaut/spell.newTable -/
def c41 : MC :=
  .seq (.reg false [.op .none 3 (.box false (.t 0)),
    .op .none 6 (.mv (.c (.w (.pointer none))))]) <|
  .seq (.reg false [.op .none 14 (.ld true 5 (.t 3)),
    .op .none 15 (.mv (.t 1)),
    .op .none 16 (.mv (.t 2)),
    .op .none 17 (.build false ([(.w (.int .i64 0)), (.w (.int .i64 0)), (.w (.int .i64 0)), (.w (.int .i64 0))] ++ [(.sl 1 []), (.sl 1 []), (.sl 1 [])] ++ List.replicate 3721 (.w (.int .i64 0))) [(0, 5, (.t 14)), (5, 1, (.t 15)), (6, 1, (.t 16))]),
    .op .none 18 (.box false (.t 17)),
    .op .none 7 (.mv (.t 18))]) <|
  .seq (.seq (.reg false [.op .none 19 (.mv (.t 1)),
    .op .none 20 (.len false (.t 19)),
    .op .none 8 (.mv (.t 20))]) <|
  .block 0 <|
    .loop <|
      .seq (.seq (.reg false [.op .none 21 (.mv (.t 8)),
        .op .none 22 (.bin .geq (.t 21) (.c (.w (.int .i64 0))))]) <|
      .cond (.t 22)
        (.skip)
        (.exit 0)) <|
      .seq (.block 1 <|
        .seq (.reg false [.op .none 25 (.mv (.t 2)),
          .op .none 26 (.len false (.t 25)),
          .op .none 9 (.mv (.t 26))]) <|
        .block 2 <|
          .loop <|
            .seq (.seq (.reg false [.op .none 27 (.mv (.t 9)),
              .op .none 28 (.bin .geq (.t 27) (.c (.w (.int .i64 0))))]) <|
            .cond (.t 28)
              (.skip)
              (.exit 2)) <|
            .seq (.block 3 <|
              .seq (.reg false [.op .none 10 (.mv (.c (.w (.int .i64 (-1)))))]) <|
              .seq (.seq (.reg false [.op .none 11 (.mv (.c (.w (.int .i64 0))))]) <|
              .block 4 <|
                .loop <|
                  .seq (.seq (.reg false [.op .none 31 (.mv (.t 11)),
                    .op .none 32 (.bin .leq (.t 31) (.c (.w (.int .i64 4))))]) <|
                  .cond (.t 32)
                    (.skip)
                    (.exit 4)) <|
                  .seq (.block 5 <|
                    .seq (.reg false [.op .none 36 (.mv (.t 7)),
                      .op .none 37 (.mv (.t 11)),
                      .op .none 38 (.mv (.t 8)),
                      .op .none 39 (.mv (.t 9)),
                      .call .none 40 (.f 74) [(.t 36), (.t 37), (.t 38), (.t 39)],
                      .op .none 35 (.mv (.t 40)),
                      .op .none 41 (.ext (.t 35) 0),
                      .op .none 42 (.ext (.t 35) 1),
                      .op .none 12 (.mv (.t 41)),
                      .op .none 13 (.mv (.t 42))]) <|
                    .seq (.reg false [.op .none 43 (.mv (.t 13)),
                      .op .none 44 (.mv (.t 43)),
                      .op (.some (44, true)) 45 (.mv (.t 10)),
                      .op (.some (44, true)) 46 (.bin .lss (.t 45) (.c (.w (.int .i64 0)))),
                      .op (.some (44, true)) 47 (.mv (.t 46)),
                      .op (.some (47, false)) 48 (.mv (.t 12)),
                      .op (.some (47, false)) 49 (.mv (.t 10)),
                      .op (.some (47, false)) 50 (.bin .lss (.t 48) (.t 49)),
                      .op (.some (44, true)) 51 (.pick (.t 47) (.c (.w (.bool true))) (.t 50)),
                      .op .none 52 (.pick (.t 44) (.t 51) (.c (.w (.bool false))))]) <|
                    .cond (.t 52)
                      (.reg false [.op .none 53 (.mv (.t 12)),
                        .op .none 10 (.mv (.t 53))])
                      (.skip)) <|
                  .reg false [.op .none 33 (.mv (.t 11)),
                    .op .none 34 (.bin .add (.t 33) (.c (.w (.int .i64 1)))),
                    .op .none 11 (.mv (.t 34))]) <|
              .reg false [.op .none 54 (.mv (.t 7)),
                .op .none 55 (.mv (.t 8)),
                .op .none 56 (.mv (.t 9)),
                .op .none 57 (.mv (.t 10)),
                .op .none 58 (.mm true (.t 57) (.c (.w (.int .i64 0)))),
                .op .none 59 (.chk (.t 54)),
                .op .none 60 (.fa 7 (.t 59)),
                .op .none 61 (.iaA 61 61 (.t 60) (.t 55)),
                .op .none 62 (.iaA 61 1 (.t 61) (.t 56)),
                .store .none (.stt false 1 (.t 62) (.t 58))]) <|
            .reg false [.op .none 29 (.mv (.t 9)),
              .op .none 30 (.bin .sub (.t 29) (.c (.w (.int .i64 1)))),
              .op .none 9 (.mv (.t 30))]) <|
      .reg false [.op .none 23 (.mv (.t 8)),
        .op .none 24 (.bin .sub (.t 23) (.c (.w (.int .i64 1)))),
        .op .none 8 (.mv (.t 24))]) <|
  .seq (.reg false [.op .none 63 (.mv (.t 7)),
    .op .none 6 (.mv (.t 63))]) <|
  .ret
theorem k41 : FnCode Tryz.prog 41 [] 64 [6] c41 := ⟨Tryz.f41, Tryz.func41, fun xs W => Tryz.call41 xs W, by kernel_rfl, by kernel_rfl, by kernel_rfl⟩

/-- The table with the rows behind i, and row i from column J on. -/
def tabG (N : Nat) (p : PricesT) (a b : List Bs) (i J : Nat) : List Int :=
  (List.range N).map fun k => if (i < k / 61 ∨ i = k / 61 ∧ J ≤ k % 61) ∧ k / 61 ≤ a.length ∧ k % 61 ≤ b.length then pr p (a.drop (k / 61)) (b.drop (k % 61)) else 0
theorem tabG_len (N : Nat) (p : PricesT) (a b : List Bs) (i J : Nat) : (tabG N p a b i J).length = N := by simp [tabG]
theorem tabG_at (N : Nat) (p : PricesT) (a b : List Bs) (i J k : Nat) (hk : k < N) : (tabG N p a b i J)[k]? = some (if (i < k / 61 ∨ i = k / 61 ∧ J ≤ k % 61) ∧ k / 61 ≤ a.length ∧ k % 61 ≤ b.length then pr p (a.drop (k / 61)) (b.drop (k % 61)) else 0) := by
  unfold tabG
  rw [List.getElem?_map, List.getElem?_range hk]; rfl
theorem tabG_congr (N : Nat) (p : PricesT) (a b : List Bs) {i J i' J' : Nat} (h : ∀ k, ((i < k / 61 ∨ i = k / 61 ∧ J ≤ k % 61) ∧ k / 61 ≤ a.length ∧ k % 61 ≤ b.length) ↔ ((i' < k / 61 ∨ i' = k / 61 ∧ J' ≤ k % 61) ∧ k / 61 ≤ a.length ∧ k % 61 ≤ b.length)) :
    tabG N p a b i J = tabG N p a b i' J' := by
  unfold tabG
  apply List.map_congr_left
  intro k _
  by_cases h1 : ((i < k / 61 ∨ i = k / 61 ∧ J ≤ k % 61) ∧ k / 61 ≤ a.length ∧ k % 61 ≤ b.length)
  · rw [if_pos h1, if_pos ((h k).1 h1)]
  · rw [if_neg h1, if_neg (fun q => h1 ((h k).2 q))]
theorem tabG_set (N : Nat) (p : PricesT) (a b : List Bs) {i j : Nat} (h2 : i ≤ a.length) (h3 : j ≤ b.length) (hb : b.length ≤ 60) :
    (tabG N p a b i (j + 1)).set (i * 61 + j) (pr p (a.drop i) (b.drop j)) = tabG N p a b i j := by
  apply List.ext_getElem?
  intro k
  rcases Nat.lt_or_ge k N with hk | hk
  · rw [List.getElem?_set, tabG_at N p a b i j k hk, tabG_at N p a b i (j + 1) k hk, tabG_len]
    by_cases e : i * 61 + j = k
    · subst e
      have e1 : (i * 61 + j) / 61 = i := by omega
      have e2 : (i * 61 + j) % 61 = j := by omega
      rw [if_pos rfl, if_pos hk, e1, e2, if_pos ⟨.inr ⟨rfl, Nat.le_refl _⟩, h2, h3⟩]
    · rw [if_neg e]
      by_cases h1 : (i < k / 61 ∨ i = k / 61 ∧ j + 1 ≤ k % 61) ∧ k / 61 ≤ a.length ∧ k % 61 ≤ b.length
      · rw [if_pos h1, if_pos ⟨by omega, h1.2⟩]
      · rw [if_neg h1, if_neg (fun q => h1 ⟨by omega, q.2⟩)]
  · rw [List.getElem?_eq_none (by rw [List.length_set, tabG_len]; exact hk), List.getElem?_eq_none (by rw [tabG_len]; exact hk)]
theorem tabG_zero (N : Nat) (p : PricesT) (a b : List Bs) : tabG N p a b (a.length + 1) 0 = List.replicate N 0 := by
  apply List.ext_getElem?
  intro k
  rcases Nat.lt_or_ge k N with hk | hk
  · rw [tabG_at N p a b _ _ k hk, List.getElem?_replicate_of_lt hk, if_neg (by omega)]
  · rw [List.getElem?_eq_none (by rw [tabG_len]; exact hk), List.getElem?_eq_none (by simpa using hk)]
def tabD (p : PricesT) (a b : List Bs) (i J : Nat) : List Int := tabG 3721 p a b i J
theorem tabD_len (p : PricesT) (a b : List Bs) (i J : Nat) : (tabD p a b i J).length = 3721 := tabG_len _ _ _ _ _ _
theorem tabD_get (p : PricesT) (a b : List Bs) {i J i' j' : Nat} (h1 : i < i' ∨ i = i' ∧ J ≤ j') (h2 : i' ≤ a.length) (h3 : j' ≤ b.length) (ha : a.length ≤ 60) (hb : b.length ≤ 60) :
    (tabD p a b i J)[i' * 61 + j']? = some (pr p (a.drop i') (b.drop j')) := by
  have e1 : (i' * 61 + j') / 61 = i' := by omega
  have e2 : (i' * 61 + j') % 61 = j' := by omega
  unfold tabD
  rw [tabG_at 3721 p a b i J _ (by omega), e1, e2, if_pos ⟨h1, h2, h3⟩]
theorem tabD_set (p : PricesT) (a b : List Bs) {i j : Nat} (h2 : i ≤ a.length) (h3 : j ≤ b.length) (hb : b.length ≤ 60) :
    (tabD p a b i (j + 1)).set (i * 61 + j) (pr p (a.drop i) (b.drop j)) = tabD p a b i j := tabG_set _ _ _ _ h2 h3 hb
theorem tabD_next (p : PricesT) (a b : List Bs) (i : Nat) : tabD p a b (i + 1) 0 = tabD p a b i (b.length + 1) := tabG_congr _ _ _ _ fun k => by
  constructor
  · rintro ⟨h1, h4, h5⟩; exact ⟨by omega, h4, h5⟩
  · rintro ⟨h1, h4, h5⟩; exact ⟨by omega, h4, h5⟩
theorem tabD_zero (p : PricesT) (a b : List Bs) : tabD p a b (a.length + 1) 0 = List.replicate 3721 0 := tabG_zero _ _ _ _
def tabF (p : PricesT) (a b : List Bs) : List Int := tabD p a b 0 0
/-- The rows behind row I - 1. -/
theorem layP_tab (p : PricesT) (a b : List Bs) {T : List Int} {i j : Nat} (v : Int) (h : i * 61 + j < T.length) : layP (tabC p a b T) (7 + i * 61 + j) [PV.w (.int .i64 v)] = tabC p a b (T.set (i * 61 + j) v) := by
  have key : ∀ (x0 x1 x2 x3 x4 x5 x6 : PV) (L : List PV) (k : Nat) (v : PV), k < L.length → layP (x0 :: x1 :: x2 :: x3 :: x4 :: x5 :: x6 :: L) (7 + k) [v] = x0 :: x1 :: x2 :: x3 :: x4 :: x5 :: x6 :: L.set k v := by
    intro x0 x1 x2 x3 x4 x5 x6 L k v hk
    unfold layP
    rw [List.set_eq_take_append_cons_drop, if_pos hk, show 7 + k = k + 7 by omega]
    simp [Nat.add_right_comm k 7 1]
  rw [show 7 + i * 61 + j = 7 + (i * 61 + j) by omega]
  unfold tabC
  rw [key _ _ _ _ _ _ _ _ _ _ (by rw [List.length_map]; exact h), List.map_set]; rfl
/-- What the first kinds of edits come to. -/
def bstK (p : PricesT) (w v : List Bs) : Nat → Int
  | 0 => -1
  | k + 1 => bst (bstK p w v k) (byG p (pr p) k w v)
theorem pr_bstK (p : PricesT) (w v : List Bs) : pr p w v = max (bstK p w v 5) 0 := by rw [pr_eq]; rfl
set_option maxRecDepth 100000 in
theorem fok41 (p : PricesT) (a b : List Bs) (hp : OkP p) (ha : a.length ≤ 60) (hb : b.length ≤ 60) :
    FOk Tryz.prog 41 [.v (pricesV p), .v (PV.word a), .v (PV.word b)] [] (.ptr 0 0 0) [(0, ⟨false, 3728, [.st (tabC p a b (tabF p a b))]⟩)] := by
  refine FOk.of k41 0 (by simp) (by decide) (by simp) (by simp) (by simp [find]) (by decide) ?_
  have ez : PV.w (.int .i64 p.1) :: PV.w (.int .i64 p.2.1) :: PV.w (.int .i64 p.2.2.1) :: PV.w (.int .i64 p.2.2.2.1) :: PV.sl 3 (p.2.2.2.2.1.map nearV) :: PV.word a :: PV.word b :: List.replicate 3721 (PV.w (.int .i64 0)) = tabC p a b (tabD p a b (a.length + 1) 0) := by
    rw [tabD_zero]; unfold tabC; rw [List.map_replicate]; rfl
  simp only [PV.word] at ez
  simp [c41, pricesV, -List.reduceReplicate]
  -- the rows
  let outT (I : Nat) : List Int := match I with | 0 => tabD p a b 0 0 | i + 1 => tabD p a b i (b.length + 1)
  have hout0 : outT (a.length + 1) = tabD p a b (a.length + 1) 0 := (tabD_next p a b a.length).symm
  refine Run.loopI (ι := Nat) (fun I => I ≤ a.length + 1) (fun I => ⟨[(2, .v (PV.word b)), (7, .ptr 1 0 0), (8, .I ((I : Int) - 1))], [(1, ⟨false, 3728, [.st (tabC p a b (outT I))]⟩)], 1024⟩) (fun I => I) (a.length + 1) [(1, 9234)] (by decide) (by simp [-List.reduceReplicate, ez, hout0]) (by simp) ?_
  rintro I hI ih
  rcases I with _ | i
  · simp
    exact Ends.new 1 rfl rfl rfl rfl
  have hi : i ≤ a.length := by omega
  simp
  refine Run.loopI (ι := Nat) (fun J => J ≤ b.length + 1) (fun J => ⟨[(2, .v (PV.word b)), (7, .ptr 1 0 0), (8, .I i), (9, .I ((J : Int) - 1))], [(1, ⟨false, 3728, [.st (tabC p a b (tabD p a b i J))]⟩)], 1024⟩) (fun J => J) (b.length + 1) [(1, 1)] (by decide) (by simp [outT]) (by simp) ?_
  rintro J hJ ihJ
  rcases J with _ | j
  · simp (disch := omega) [wrap_i64]
    refine ih i [(1, 1)] _ (by omega) (by omega) ?_
    have e : tabD p a b i 0 = outT i := by
      cases i with
      | zero => rfl
      | succ i => exact tabD_next p a b i
    simp [e]
  have hj : j ≤ b.length := by omega
  simp
  refine Run.loopI (ι := Nat) (fun k => k ≤ 5) (fun k => ⟨[(2, .v (PV.word b)), (7, .ptr 1 0 0), (8, .I i), (9, .I j), (10, .I (bstK p (a.drop i) (b.drop j) k)), (11, .I k)], [(1, ⟨false, 3728, [.st (tabC p a b (tabD p a b i (j + 1)))]⟩)], 1024⟩) (fun k => 5 - k) 0 [(1, 1)] (by decide) (by simp [bstK]) (by simp) ?_
  rintro k hk ihk
  by_cases hk4 : k ≤ 4
  · have hb := fok74 p a b (tabD p a b i (j + 1)) k i j hp ha hb (tabD_len _ _ _ _ _) hk4 hi hj (fun i' j' h1 h2 h3 h4 h5 => tabD_get p a b (by omega) h4 h5 ha hb)
    simp (disch := omega) [hk4, wrap_i64]
    cases hby : byG p (pr p) k (a.drop i) (b.drop j) with
    | none =>
      rw [hby] at hb
      refine CallG.same [1] rfl rfl rfl rfl (by simp) (by simp) hb (by simp [resO]) (by simp [Named']) ?_
      simp (disch := omega) [resO, wrap_i64]
      exact ihk (k + 1) [(1, 1)] _ (by omega) (by omega) (by simp [bstK, hby, bst])
    | some c =>
      rw [hby] at hb
      refine CallG.same [1] rfl rfl rfl rfl (by simp) (by simp) hb (by simp [resO]) (by simp [Named']) ?_
      by_cases h1 : bstK p (a.drop i) (b.drop j) k < 0
      · simp (disch := omega) [resO, wrap_i64, h1]
        exact ihk (k + 1) [(1, 1)] _ (by omega) (by omega) (by simp [bstK, hby, bst, h1])
      · by_cases h2 : c < bstK p (a.drop i) (b.drop j) k
        · simp (disch := omega) [resO, wrap_i64, h1, h2]
          exact ihk (k + 1) [(1, 1)] _ (by omega) (by omega) (by simp [bstK, hby, bst, h1, h2])
        · simp (disch := omega) [resO, wrap_i64, h1, h2]
          exact ihk (k + 1) [(1, 1)] _ (by omega) (by omega) (by simp [bstK, hby, bst, h1, h2])
  · obtain rfl : k = 5 := by omega
    have hlt : i * 61 + j < (tabD p a b i (j + 1)).length := by rw [tabD_len]; omega
    have hlt2 : 7 + i * 61 + j ≤ 3727 := by omega
    have l1 : i < 61 := by omega
    have l2 : j < 61 := by omega
    have hv : (if bstK p (a.drop i) (b.drop j) 5 < 0 then 0 else bstK p (a.drop i) (b.drop j) 5) = pr p (a.drop i) (b.drop j) := by
      rw [pr_bstK]; split <;> omega
    simp (disch := omega) [wrap_i64, l1, l2, -layP, layP_tab, hlt, hlt2, tabD_len, hv, tabD_set]
    exact ihJ j [(1, 1)] _ (by omega) (by omega) (by simp)

end Go.Proofs

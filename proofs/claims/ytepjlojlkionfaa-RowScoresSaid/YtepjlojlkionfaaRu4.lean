/- The walk. -/
import Derived.Test.YtepjlojlkionfaaRu3
import Derived.Test.YtepjlojlkionfaaProg
import Derived.KernelRfl
set_option linter.all false
set_option maxHeartbeats 2000000
namespace Go.Proofs
open Go Go.AM
attribute [local irreducible] Run Ends
/-- ablaut/ablautref19.Confused -/
def c33 : MC :=
  .seq (.reg false [.op .none 2 (.box false (.t 0)),
    .op .none 4 (.nilS 1),
    .op .none 5 (.mv (.c (.w (.int .i64 0))))]) <|
  .seq (.seq (.reg false [.op .none 13 (.ld true 6 (.t 2)),
    .op .none 14 (.mv (.t 1)),
    .call .none 15 (.f 68) [(.t 13), (.t 14)],
    .op .none 6 (.mv (.t 15))]) <|
  .seq (.reg false [.op .none 16 (.mv (.t 6)),
    .op .none 17 (.bin .neq (.t 16) (.c (.w (.int .i64 0))))]) <|
  .cond (.t 17)
    (.seq (.reg false [.op .none 18 (.mv (.t 6)),
      .op .none 4 (.nilS 1),
      .op .none 5 (.mv (.t 18))]) <|
    .ret)
    (.skip)) <|
  .seq (.reg false [.op .none 19 (.fa 0 (.t 2)),
    .op .none 20 (.ld false 1 (.t 19)),
    .op .none 21 (.len false (.t 20)),
    .op .none 22 (.mkS 1 24 false [(.sl 1 [])] (.t 21) (.t 21)),
    .op .none 7 (.mv (.t 22))]) <|
  .seq (.seq (.reg false [.op .none 8 (.mv (.c (.w (.int .i64 0))))]) <|
  .block 0 <|
    .loop <|
      .seq (.seq (.reg false [.op .none 23 (.mv (.t 8)),
        .op .none 24 (.mv (.t 7)),
        .op .none 25 (.len false (.t 24)),
        .op .none 26 (.bin .lss (.t 23) (.t 25))]) <|
      .cond (.t 26)
        (.skip)
        (.exit 0)) <|
      .seq (.block 1 <|
        .reg false [.op .none 29 (.mv (.t 7)),
          .op .none 30 (.mv (.t 8)),
          .op .none 31 (.fa 0 (.t 2)),
          .op .none 32 (.ld false 1 (.t 31)),
          .op .none 33 (.len false (.t 32)),
          .op .none 34 (.mkS 1 8 false [(.w (.int .i64 0))] (.t 33) (.t 33)),
          .op .none 35 (.ia 1 (.t 29) (.t 30)),
          .store .none false 0 (.t 35) (.t 34)]) <|
      .reg false [.op .none 27 (.mv (.t 8)),
        .op .none 28 (.bin .add (.t 27) (.c (.w (.int .i64 1)))),
        .op .none 8 (.mv (.t 28))]) <|
  .seq (.seq (.reg false [.op .none 9 (.mv (.c (.w (.int .i64 0))))]) <|
  .block 2 <|
    .loop <|
      .seq (.seq (.reg false [.op .none 36 (.mv (.t 9)),
        .op .none 37 (.mv (.t 1)),
        .op .none 38 (.len false (.t 37)),
        .op .none 39 (.bin .lss (.t 36) (.t 38))]) <|
      .cond (.t 39)
        (.skip)
        (.exit 2)) <|
      .seq (.block 3 <|
        .seq (.reg true [.op .none 42 (.ld true 6 (.t 2)),
          .op .none 43 (.mv (.t 1)),
          .op .none 44 (.mv (.t 9)),
          .op .none 45 (.ia 2 (.t 43) (.t 44)),
          .op .none 46 (.fa 0 (.t 45)),
          .op .none 47 (.ld false 1 (.t 46)),
          .call .none 48 (.f 39) [(.t 42), (.t 47), (.c (.w (.int .i64 1)))],
          .op .none 10 (.mv (.t 48))]) <|
        .seq (.reg false [.op .none 11 (.mv (.c (.w (.int .i64 0))))]) <|
        .block 4 <|
          .loop <|
            .seq (.seq (.reg false [.op .none 49 (.mv (.t 11)),
              .op .none 50 (.mv (.t 1)),
              .op .none 51 (.mv (.t 9)),
              .op .none 52 (.ia 2 (.t 50) (.t 51)),
              .op .none 53 (.fa 1 (.t 52)),
              .op .none 54 (.ld false 1 (.t 53)),
              .op .none 55 (.len false (.t 54)),
              .op .none 56 (.bin .lss (.t 49) (.t 55)),
              .op .none 57 (.mv (.t 56)),
              .op (.some (57, true)) 58 (.mv (.t 10)),
              .op (.some (57, true)) 59 (.len false (.t 58)),
              .op (.some (57, true)) 60 (.bin .gtr (.t 59) (.c (.w (.int .i64 0)))),
              .op .none 61 (.pick (.t 57) (.t 60) (.c (.w (.bool false))))]) <|
            .cond (.t 61)
              (.skip)
              (.exit 4)) <|
            .seq (.block 5 <|
              .seq (.reg false [.op .none 12 (.mv (.c (.w (.int .i64 0))))]) <|
              .block 6 <|
                .loop <|
                  .seq (.seq (.reg false [.op .none 64 (.mv (.t 12)),
                    .op .none 65 (.fa 0 (.t 2)),
                    .op .none 66 (.ld false 1 (.t 65)),
                    .op .none 67 (.len false (.t 66)),
                    .op .none 68 (.bin .lss (.t 64) (.t 67))]) <|
                  .cond (.t 68)
                    (.skip)
                    (.exit 6)) <|
                  .seq (.block 7 <|
                    .seq (.reg true [.op .none 71 (.fa 0 (.t 2)),
                      .op .none 72 (.ld false 1 (.t 71)),
                      .op .none 73 (.mv (.t 12)),
                      .op .none 74 (.ia 1 (.t 72) (.t 73)),
                      .op .none 75 (.ld false 1 (.t 74)),
                      .op .none 76 (.mv (.t 1)),
                      .op .none 77 (.mv (.t 9)),
                      .op .none 78 (.ia 2 (.t 76) (.t 77)),
                      .op .none 79 (.fa 1 (.t 78)),
                      .op .none 80 (.ld false 1 (.t 79)),
                      .op .none 81 (.mv (.t 11)),
                      .op .none 82 (.ia 1 (.t 80) (.t 81)),
                      .op .none 83 (.ld false 1 (.t 82)),
                      .op .none 84 (.bin .eql (.t 75) (.t 83))]) <|
                    .cond (.t 84)
                      (.reg true [.op .none 85 (.mv (.t 7)),
                        .op .none 86 (.mv (.t 12)),
                        .op .none 87 (.ia 1 (.t 85) (.t 86)),
                        .op .none 88 (.ld false 1 (.t 87)),
                        .op .none 89 (.mv (.t 10)),
                        .op .none 90 (.ia 2 (.t 89) (.c (.w (.int .i64 0)))),
                        .op .none 91 (.fa 1 (.t 90)),
                        .op .none 92 (.ld false 1 (.t 91)),
                        .op .none 93 (.mv (.t 11)),
                        .op .none 94 (.ia 1 (.t 92) (.t 93)),
                        .op .none 95 (.ld false 1 (.t 94)),
                        .op .none 96 (.ia 1 (.t 88) (.t 95)),
                        .op .none 97 (.ld false 1 (.t 96)),
                        .op .none 98 (.bin .add (.t 97) (.c (.w (.int .i64 1)))),
                        .op .none 99 (.ia 1 (.t 88) (.t 95)),
                        .store .none false 1 (.t 99) (.t 98)])
                      (.skip)) <|
                  .reg false [.op .none 69 (.mv (.t 12)),
                    .op .none 70 (.bin .add (.t 69) (.c (.w (.int .i64 1)))),
                    .op .none 12 (.mv (.t 70))]) <|
            .reg false [.op .none 62 (.mv (.t 11)),
              .op .none 63 (.bin .add (.t 62) (.c (.w (.int .i64 1)))),
              .op .none 11 (.mv (.t 63))]) <|
      .reg false [.op .none 40 (.mv (.t 9)),
        .op .none 41 (.bin .add (.t 40) (.c (.w (.int .i64 1)))),
        .op .none 9 (.mv (.t 41))]) <|
  .seq (.reg false [.op .none 100 (.mv (.t 7)),
    .op .none 4 (.mv (.t 100)),
    .op .none 5 (.mv (.c (.w (.int .i64 0))))]) <|
  .ret
theorem k33 : FnCode Try.prog 33 [100035] 101 [4, 5] c33 := ⟨Try.f33, Try.func33, fun xs W => Try.call33 xs W, by kernel_rfl, by kernel_rfl, by kernel_rfl⟩

theorem best_first {t : TagT} {w : List Bs} (ht : OkT t) (hw : w.length ≤ 200) (hc : chkF t w.length = 0) : (firstF t w 1 = [] ∧ (bestF t w).1 = []) ∨ ∃ c a rest, firstF t w 1 = (c, a) :: rest ∧ (bestF t w).1 = a.map (fun k => t.1.getD k []) ∧ a.length = w.length ∧ (∀ k ∈ a, k < t.1.length) ∧ rest.length ≤ 200 := by
  have h0 := first_same ht w 0
  have e1 : firstF t w 1 = ((sevP t w 1 w.length).take 1).map fun a => (allP t w a, a) := by
    rw [h0]
    have h2 := sevP_first ht w 0 w.length (Nat.le_refl _)
    have h3 := (sevP_first ht w 1 w.length (Nat.le_refl _)).take (N := 1) (by omega)
    rw [h2.uniq (linP _) h3]
  have e2 : (bestF t w).1 = match (sevP t w 1 w.length).take 1 with | [] => [] | a :: _ => a.map (fun k => t.1.getD k []) := by
    unfold bestF sevF
    have h1' : ¬ chkF t w.length ≠ 0 := by simpa using hc
    rw [if_neg h1', if_neg (by omega)]
    simp only [Int.toNat_one, ne_eq, not_true_eq_false, if_false]
    cases (sevP t w 1 w.length).take 1 <;> rfl
  have hg : ∀ a ∈ (sevP t w 1 w.length).take 1, GoodP t w w.length a := fun a ha => sevP_good ht 1 w.length (Nat.le_refl _) a (List.mem_of_mem_take ha)
  rw [e1, e2]
  have hl : ((sevP t w 1 w.length).take 1).length ≤ 1 := by simp; omega
  generalize (sevP t w 1 w.length).take 1 = S at hg hl
  cases S with
  | nil => exact .inl ⟨rfl, rfl⟩
  | cons a r =>
    have := hg a (by simp)
    refine .inr ⟨allP t w a, a, r.map fun a => (allP t w a, a), rfl, rfl, this.len, this.lt, by simp only [List.length_cons] at hl; rw [List.length_map]; omega⟩
theorem stA_pw : ∀ (l : List Bs) (p : Option Bs), stA p l = true → (∀ a, p = some a → ∀ s ∈ l, ltB a s = true) ∧ l.Pairwise (fun a b => ltB a b = true)
  | [], _, _ => ⟨by simp, List.Pairwise.nil⟩
  | s :: l, p, h => by
    have hs : stA (some s) l = true := by
      cases p with
      | none => exact h
      | some a => simp only [stA, Bool.and_eq_true] at h; exact h.2
    obtain ⟨h1, h2⟩ := stA_pw l (some s) hs
    refine ⟨fun a ha x hx => ?_, List.Pairwise.cons (h1 s rfl) h2⟩
    subst ha
    simp only [stA, Bool.and_eq_true] at h
    rcases List.mem_cons.1 hx with rfl | hx
    · exact h.1
    · exact ltB_trans h.1 (h1 s rfl x hx)
theorem idN_at {G : List Bs} (h : ascN none G = true) {k : Nat} (hk : k < G.length) : inW G G[k] = true ∧ idN G G[k] = k := by
  rw [ascN_st, Bool.and_eq_true] at h
  have hp := (stA_pw G none h.2).2
  have hin : inW G G[k] = true := (inW_iff _ _).2 (List.getElem_mem hk)
  refine ⟨hin, ?_⟩
  rcases idx_cases G G[k] with ⟨q, _⟩ | ⟨_, _, q3, q4, _⟩
  · rw [hin] at q; cases q
  · apply Classical.byContradiction
    intro hne
    rw [List.pairwise_iff_getElem] at hp
    rcases Nat.lt_or_gt_of_ne hne with hlt | hlt
    · have := hp _ _ q3 hk hlt
      rw [q4, ltB_irrefl] at this; cases this
    · have := hp _ _ hk q3 hlt
      rw [q4, ltB_irrefl] at this; cases this
theorem idN_iff {G : List Bs} (h : ascN none G = true) (y : Bs) {m : Nat} (hm : m < G.length) : G[m] = y ↔ (inW G y = true ∧ idN G y = m) := by
  constructor
  · rintro rfl; exact idN_at h hm
  · rintro ⟨h1, h2⟩
    rcases idx_cases G y with ⟨q, _⟩ | ⟨_, _, q3, q4, _⟩
    · rw [h1] at q; cases q
    · subst h2; exact q4
/-- The matrix within a row of tags: ahead of tag m. -/
def midM (G : List Bs) (y : Bs) (b m : Nat) (M : List (List Int)) : List (List Int) := if inW G y = true ∧ idN G y < m then bump M (idN G y) b else M
theorem midM_zero (G : List Bs) (y : Bs) (b : Nat) (M : List (List Int)) : midM G y b 0 M = M := by unfold midM; rw [if_neg (by omega)]
theorem midM_end (G : List Bs) (y : Bs) (b : Nat) (M : List (List Int)) : midM G y b G.length M = if inW G y = true then bump M (idN G y) b else M := by
  unfold midM
  rcases idx_cases G y with ⟨q, _⟩ | ⟨q, _, q3, _⟩
  · rw [q, if_neg (by simp), if_neg (by simp)]
  · rw [if_pos ⟨q, q3⟩, if_pos q]
theorem midM_eq {G : List Bs} (h : ascN none G = true) (y : Bs) (b : Nat) (M : List (List Int)) {m : Nat} (hm : m < G.length) (e : G[m] = y) : midM G y b m M = M ∧ midM G y b (m + 1) M = bump M m b := by
  obtain ⟨h1, h2⟩ := (idN_iff h y hm).1 e
  unfold midM
  rw [if_neg (by omega), if_pos ⟨h1, by omega⟩, h2]
  exact ⟨rfl, rfl⟩
theorem midM_ne {G : List Bs} (h : ascN none G = true) (y : Bs) (b : Nat) (M : List (List Int)) {m : Nat} (hm : m < G.length) (e : ¬ G[m] = y) : midM G y b (m + 1) M = midM G y b m M := by
  have := fun h1 h2 => e ((idN_iff h y hm).2 ⟨h1, h2⟩)
  unfold midM
  by_cases q : inW G y = true
  · have h3 : idN G y ≠ m := this q
    by_cases q2 : idN G y < m
    · rw [if_pos ⟨q, by omega⟩, if_pos ⟨q, q2⟩]
    · rw [if_neg (fun h => by have := h.2; omega), if_neg (fun h => q2 h.2)]
  · rw [if_neg (fun h => q h.1), if_neg (fun h => q h.1)]
theorem midM_sq {n : Nat} {G : List Bs} {y : Bs} {b m : Nat} {M : List (List Int)} (h : Sq n M) : Sq n (midM G y b m M) := by
  unfold midM; split
  · exact bump_sq h
  · exact h
theorem tstF_zero {t : TagT} {l : List LineT} (h : tstF t l = 0) : OkT t ∧ ∀ x ∈ l, chkF t x.1.length = 0 ∧ x.1.length ≤ 200 := by
  have hv : valF t = 0 := by
    unfold tstF at h
    split at h
    · rename_i h1; exact (h1 h).elim
    · rename_i h1; simpa using h1
  refine ⟨valF_ok hv, fun x hx => ?_⟩
  have hl : x.1.length ≤ 200 := by
    unfold tstF at h
    rw [if_neg (by simpa using hv)] at h
    split at h
    · cases h
    · split at h
      · cases h
      · rename_i q
        apply Classical.byContradiction
        intro hne
        exact q (List.any_eq_true.2 ⟨x, hx, by simp [lngLn]; omega⟩)
  refine ⟨?_, hl⟩
  unfold chkF
  rw [hv]
  simp; omega
theorem fok33 (t : TagT) (l : List LineT) (ht : tagS t) (hl : linesS l) : FOk Try.prog 33 [.v (tagV t), .v (linesV l)] [] (.tup [.v (.sl 1 ((cfF t l).1.map intsV)), .I (cfF t l).2]) [] := by
  have h1 := fok68 t l ht hl.n
  have hfit := tstF_fit (t := t) (l := l)
  have hz := tstF_zero (t := t) (l := l)
  have hb := fun w (hO : OkT t) (h : w.length ≤ 200) => fok39 t w 1 hO h (Nat.le_refl _) (by decide)
  have hbf := fun (w : List Bs) (hO : OkT t) (h : w.length ≤ 200) (hc : chkF t w.length = 0) => best_first hO h hc
  obtain ⟨hn, hw⟩ := hl
  have htc2 : tagV t = .st [.word t.1, intsV t.2.1, intsV t.2.2.1, .sl 1 (t.2.2.2.1.map intsV), .sl 2 (t.2.2.2.2.1.map worthV), intsV t.2.2.2.2.2.1] := by
    obtain ⟨G, Fi, Z, P, W, U, uu⟩ := t; rfl
  unfold cfF
  have hsc : ∀ x l M, cfL t (x :: l) M = cfL t l (cfN t.1 (bestF t x.1).1 x.2.1 M) := fun _ _ _ => rfl
  have hs0 : ∀ M, cfL t [] M = M := fun _ => rfl
  generalize cfL t = sc at hsc hs0 ⊢
  generalize bestF t = bF at hbf hsc
  generalize firstF t = fF at hb hbf
  generalize tstF t l = v at h1 hfit hz ⊢
  rw [htc2] at h1 hb ⊢
  refine FOk.val k33 (by simp) (by simp) (by decide) ?_
  simp [c33]
  refine CallG.lent rfl rfl rfl rfl h1 rfl ?_
  by_cases hv : v = 0
  case neg =>
    simp [hv]
    exact Ends.v rfl (by simp [hv])
  have hfit2 := hfit hv
  obtain ⟨hO, hchk⟩ := hz hv
  have hG := hO.g
  have hga := hO.ga
  clear hfit hz
  subst hv
  simp only [linesV]
  have c1 : (t.1.length : Int) * 24 ≤ 70368744177664 := by omega
  have c2 : (t.1.length : Int) ≤ 1000000000000 := by omega
  have hn3 : t.1.length ≤ 3000 := by omega
  simp [c1, c2]
  refine Run.leA [(1, 2), (2, 7)] (s' := ⟨[(1, .v (.sl 2 (l.map lineV))), (2, .ptr 1 0 0), (7, .h 2), (8, .I 0)], [(2, ⟨false, 0, .st [] :: List.replicate t.1.length (.sl 1 [])⟩), (1, ⟨false, 6, [tagV t]⟩)], 1024⟩) (by simp [htc2]) ?_
  refine Run.deepen (id := 2) (c0 := 1024) (sz := 1) (m := 10240) (x := none) (rest := List.replicate t.1.length (.sl 1 [])) (by simp) (by intro p hp; exact .inl ⟨1, [], List.eq_of_mem_replicate hp⟩) (.inl rfl) (by simp) (by simp; omega) (by decide) ?_
  simp
  have hL0 : ∀ k, k ≤ t.1.length → ((List.replicate k (some (List.replicate t.1.length (PV.i 0))) ++ List.replicate (t.1.length - k) none) : List (Option (List PV))).length = t.1.length := fun k hk => by simp; omega
  refine Run.loopD [(1, 2), (2, 7)] 1024 t.1.length (ι := Nat) (fun i => i ≤ t.1.length) (fun i => ⟨[(1, .v (.sl 2 (l.map lineV))), (2, .ptr 1 0 0), (7, .h 2), (8, .I i)], (2, ⟨false, 0, encD 1024 :: List.replicate t.1.length (.sl 1 [])⟩) :: (1, ⟨false, 6, [tagV t]⟩) :: matO 1024 1 (List.replicate i (some (List.replicate t.1.length (.i 0))) ++ List.replicate (t.1.length - i) none), 10240⟩) (fun i => t.1.length - i) 0 none (by decide) ?_ (by simp) ?_
  · refine le_tg (kp := [(1, 1), (2, 2)]) (by simp) (by omega) (by simp) (by simp) (by simp) (by simp) (by simp) (by simp) (by simp) (by simp) (by simp) ?_
    simp
    exact tail_none (n := t.1.length) (by simp) (by omega) (fun j hj => by simp [find_idR hj]) (fun j hj => by simp) (by decide)
  rintro i hi ih
  by_cases h : i < t.1.length
  · have c3 : (t.1.length : Int) * 8 ≤ 70368744177664 := by omega
    have c4 : t.1.length ≤ 1000000000000 := by omega
    have hLl : (List.replicate i (some (List.replicate t.1.length (PV.i 0))) ++ List.replicate (t.1.length - i) none : List (Option (List PV))).length = t.1.length := hL0 i hi
    simp only [PV.i] at hLl
    generalize hLL : (List.replicate i (some (List.replicate t.1.length (PV.w (.int .i64 0)))) ++ List.replicate (t.1.length - i) none : List (Option (List PV))) = L at hLl
    have hL3 : L.length ≤ 3000 := by omega
    simp (disch := omega) [h, wrap_i64, htc2, c3, c4, hLL, hL3]
    refine ih (i + 1) (some (i, 18466)) _ (by omega) (by omega) (le_tg (kp := [(1, 1), (2, 2)]) (by simp) (by omega) (by simp) (by simp) (by simp) (by simp) (by simp) (by simp) (by simp) (by simp) (by simp [htc2]) ?_)
    have hLs : (List.replicate (i + 1) (some (List.replicate t.1.length (PV.w (.int .i64 0)))) ++ List.replicate (t.1.length - (i + 1)) none : List (Option (List PV))) = L.set i (some (List.replicate t.1.length (PV.w (.int .i64 0)))) := by
      rw [← hLL, show t.1.length - i = (t.1.length - (i + 1)) + 1 by omega, List.replicate_succ (n := t.1.length - (i + 1)), List.set_append_right _ _ (by simp)]
      simp [List.replicate_succ', List.append_assoc]
    simp [htc2, hLs]
    exact tail_some (n := t.1.length) (c := 18466) (by omega) (by omega) (fun j hj => by simp [find_idR hj]) (fun j hj => by simp [hj]) (by simp) (by decide)
  have hie : i = t.1.length := by omega
  subst hie
  have hz0 : (List.replicate t.1.length (some (List.replicate t.1.length (PV.w (.int .i64 0)))) : List (Option (List PV))) = (zeroM t.1.length).map rowO := by
    simp [zeroM, rowO]
  have hsq0 : Sq t.1.length (zeroM t.1.length) := ⟨by simp [zeroM], fun r hr => by rw [List.eq_of_mem_replicate hr]; simp⟩
  generalize zeroM t.1.length = M0 at hz0 hsq0 ⊢
  have hM0 : (M0.map rowO).length ≤ 3000 := by rw [List.length_map, hsq0.1]; omega
  generalize hres : sc l M0 = res
  simp [hz0, hM0]
  refine Run.cutB (ι := Unit) [(1, 7)] (fun _ => True) (fun _ => ⟨[(7, .h 1)], [(1, ⟨false, 1, res.map intsV⟩)], 1024⟩) (by decide) ?_ ?_
  · intro _ _
    simp
    exact Ends.v rfl (by simp)
  intro hK
  refine Run.loopD [(1, 2), (2, 7)] 1024 t.1.length (ι := Nat × List (List Int)) (fun q => q.1 ≤ l.length ∧ Sq t.1.length q.2 ∧ sc (l.drop q.1) q.2 = res) (fun q => ⟨[(1, .v (.sl 2 (l.map lineV))), (2, .ptr 1 0 0), (7, .h 2), (9, .I q.1)], (2, ⟨false, 0, encD 1024 :: List.replicate t.1.length (.sl 1 [])⟩) :: (1, ⟨false, 6, [tagV t]⟩) :: matO 1024 1 (q.2.map rowO), 10240⟩) (fun q => l.length - q.1) (0, M0) none (by decide) ?_ ⟨by simp, hsq0, by simpa using hres⟩ ?_
  · refine le_tg (kp := [(1, 1), (2, 2)]) (by simp) (by omega) (by simp) (by simp) (by simp) (by simp) (by simp) (by simp) (by simp) (by simp) (by simp) ?_
    simp [htc2]
    exact tail_none (n := t.1.length) (by simp [hsq0.1]) (by omega) (fun j hj => by simp [find_idR hj]) (fun j hj => by simp) (by decide)
  rintro ⟨i, M⟩ ⟨hi, hsq, hall⟩ ih2
  simp only at hi hsq hall ih2
  clear ih
  have hM3 : (M.map rowO).length ≤ 3000 := by rw [List.length_map, hsq.1]; omega
  by_cases h : i < l.length
  case neg =>
    rw [drop_no h, hs0] at hall
    subst hall
    simp [h]
    refine hK () _ trivial ?_
    have hdr : ∀ j, j < t.1.length → newOf [(1, 2)] (dAt 1024 none j) = none ∧ ∃ b, find ((2, (⟨false, 0, encD 1024 :: List.replicate t.1.length (.sl 1 [])⟩ : Ent)) :: (1, ⟨false, 6, [tagV t]⟩) :: matO 1024 1 (M.map rowO)) (dAt 1024 none j) = some ⟨b, 1, (M.getD j []).map .i⟩ := by
      intro j hj
      have hj2 : j < M.length := by rw [hsq.1]; exact hj
      refine ⟨by simp [newOf], false, ?_⟩
      simp [find_cons, hj2, rowO]
    have hdr2 := deepRows_mat (by decide) hdr
    have hdr3 : ((List.range t.1.length).map fun j => PV.sl 1 ((M.getD j []).map .i)) = M.map intsV := by
      apply List.ext_getElem
      · simp [hsq.1]
      · intro j g1 g2
        simp at g1 g2
        simp [intsV, g2]
    rw [hdr3] at hdr2
    simp [hdr2]
  rw [drop_at h, hsc] at hall
  obtain ⟨hc0, hc200⟩ := hchk _ (List.getElem_mem h)
  have hbb := hb _ hO hc200
  have hcc := hbf _ hO hc200 hc0
  have hff := hfit2 _ (List.getElem_mem h)
  have hyl := (hw _ (List.getElem_mem h)).2.1
  generalize fF l[i].1 1 = rows at hbb hcc
  generalize bF l[i].1 = b at hcc hall
  generalize hx : l[i] = x at hbb hcc hff hyl hall
  obtain ⟨w, g, u⟩ := x
  obtain ⟨A, cst, ok, e⟩ := b
  simp only at hbb hcc hff hyl hall
  simp (disch := omega) [h, wrap_i64, hx, lineV, htc2, hM3]
  simp only [PV.word, PV.s] at hbb
  refine CallG.plain rfl rfl rfl rfl hbb (by simp) (by simp) ?_
  simp (disch := omega) [wrap_i64, hM3]
  generalize hM1 : cfN t.1 A g M = M1 at hall
  rcases hcc with ⟨rfl, rfl⟩ | ⟨c, a, rest, rfl, rfl, hal, hlt, hrl⟩
  · have hM2 : M = M1 := by rw [← hM1]; cases g <;> rfl
    subst hM2
    refine Run.loopD [(1, 2), (2, 7)] 1024 t.1.length (ι := Unit) (fun _ => True) (fun _ => ⟨[(1, .v (.sl 2 (l.map lineV))), (2, .ptr 1 0 0), (7, .h 2), (9, .I i), (10, .v (tailsV [])), (11, .I 0)], (2, ⟨false, 0, encD 1024 :: List.replicate t.1.length (.sl 1 [])⟩) :: (1, ⟨false, 6, [tagV t]⟩) :: matO 1024 1 (M.map rowO), 10240⟩) (fun _ => 0) () none (by decide) ?_ trivial ?_
    · refine le_tg (kp := [(1, 1), (2, 2)]) (by simp) (by omega) (by simp) (by simp) (by simp) (by simp) (by simp) (by simp) (by simp) (by simp) (by simp) ?_
      simp [htc2, lineV]
      exact tail_none (n := t.1.length) (by simp [hsq.1]) (by omega) (fun j hj => by simp [find_idR hj]) (fun j hj => by simp [hj]) (by decide)
    rintro _ _ _
    have key : ∀ s', Le 0 (kpA s'.env [(1, 2), (2, 7)] ++ idR 1024 none t.1.length) s' ⟨[(1, .v (.sl 2 (l.map lineV))), (2, .ptr 1 0 0), (7, .h 2), (9, .I ((i : Int) + 1))], (2, ⟨false, 0, encD 1024 :: List.replicate t.1.length (.sl 1 [])⟩) :: (1, ⟨false, 6, [tagV t]⟩) :: matO 1024 1 (M.map rowO), 10240⟩ → _ := fun s' hle => ih2 (i + 1, M) none s' ⟨by simp; omega, hsq, hall⟩ (by simp; omega) hle
    by_cases hg0 : 0 < g.length
    · simp (disch := omega) [hg0, wrap_i64, lineV, h, hx, tailsV, hM3]
      refine key _ (le_tg (kp := [(1, 1), (2, 2)]) (by simp) (by omega) (by simp) (by simp) (by simp) (by simp) (by simp) (by simp) (by simp) (by simp) (by simp) ?_)
      simp [htc2, lineV]
      exact tail_none (n := t.1.length) (by simp [hsq.1]) (by omega) (fun j hj => by simp [find_idR hj]) (fun j hj => by simp [hj]) (by decide)
    · simp (disch := omega) [hg0, wrap_i64, lineV, h, hx, tailsV, hM3]
      refine key _ (le_tg (kp := [(1, 1), (2, 2)]) (by simp) (by omega) (by simp) (by simp) (by simp) (by simp) (by simp) (by simp) (by simp) (by simp) (by simp) ?_)
      simp [htc2, lineV]
      exact tail_none (n := t.1.length) (by simp [hsq.1]) (by omega) (fun j hj => by simp [find_idR hj]) (fun j hj => by simp [hj]) (by decide)
  refine Run.loopD [(1, 2), (2, 7)] 1024 t.1.length (ι := Nat × List (List Int)) (fun q => q.1 ≤ g.length ∧ Sq t.1.length q.2 ∧ cfN t.1 ((a.map fun k => t.1.getD k []).drop q.1) (g.drop q.1) q.2 = M1) (fun q => ⟨[(1, .v (.sl 2 (l.map lineV))), (2, .ptr 1 0 0), (7, .h 2), (9, .I i), (10, .v (tailsV ((c, a) :: rest))), (11, .I q.1)], (2, ⟨false, 0, encD 1024 :: List.replicate t.1.length (.sl 1 [])⟩) :: (1, ⟨false, 6, [tagV t]⟩) :: matO 1024 1 (q.2.map rowO), 10240⟩) (fun q => g.length - q.1) (0, M) none (by decide) ?_ ⟨by simp, hsq, by simpa using hM1⟩ ?_
  · refine le_tg (kp := [(1, 1), (2, 2)]) (by simp) (by omega) (by simp) (by simp) (by simp) (by simp) (by simp) (by simp) (by simp) (by simp) (by simp) ?_
    simp [htc2, lineV]
    exact tail_none (n := t.1.length) (by simp [hsq.1]) (by omega) (fun j hj => by simp [find_idR hj]) (fun j hj => by simp [hj]) (by decide)
  rintro ⟨k, M'⟩ ⟨hk, hsq', hm⟩ ihk
  simp only at hk hsq' hm ihk
  have hM3' : (M'.map rowO).length ≤ 3000 := by rw [List.length_map, hsq'.1]; omega
  by_cases hkg : k < g.length
  case neg =>
    have hgd : g.drop k = [] := drop_no hkg
    have : M' = M1 := by rw [← hm, hgd]; cases (a.map fun k => t.1.getD k []).drop k <;> rfl
    subst this
    simp (disch := omega) [hkg, wrap_i64, lineV, h, hx, hM3']
    refine ih2 (i + 1, M') none _ ⟨by simp; omega, hsq', hall⟩ (by simp; omega) (le_tg (kp := [(1, 1), (2, 2)]) (by simp) (by omega) (by simp) (by simp) (by simp) (by simp) (by simp) (by simp) (by simp) (by simp) (by simp) ?_)
    simp [htc2]
    exact tail_none (n := t.1.length) (by simp [hsq'.1]) (by omega) (fun j hj => by simp [find_idR hj]) (fun j hj => by simp [hj]) (by decide)
  have hka : k < a.length := by omega
  have hkm : k < (a.map fun k => t.1.getD k []).length := by simpa using hka
  rw [drop_at hkm, drop_at hkg] at hm
  simp only [cfN, List.getElem_map] at hm
  have hkk := hlt _ (List.getElem_mem hka)
  rw [getD_at hkk, (idN_at hga hkk).2, ← midM_end] at hm
  have hng : ((rest.length : Int) + 1 > 0) := by omega
  generalize hxg : g[k] = y at hm
  generalize hxa : a[k] = kk at hm hkk
  have hpos : (0 : Int) < (rest.length : Int) + 1 := by omega
  simp (disch := omega) [hkg, wrap_i64, lineV, h, hx, hM3', tailsV, hpos]
  refine Run.loopD [(1, 2), (2, 7)] 1024 t.1.length (ι := Nat) (fun m => m ≤ t.1.length) (fun m => ⟨[(1, .v (.sl 2 (l.map lineV))), (2, .ptr 1 0 0), (7, .h 2), (9, .I i), (10, .v (tailsV ((c, a) :: rest))), (11, .I k), (12, .I m)], (2, ⟨false, 0, encD 1024 :: List.replicate t.1.length (.sl 1 [])⟩) :: (1, ⟨false, 6, [tagV t]⟩) :: matO 1024 1 ((midM t.1 y kk m M').map rowO), 10240⟩) (fun m => t.1.length - m) 0 none (by decide) ?_ (by simp) ?_
  · refine le_tg (kp := [(1, 1), (2, 2)]) (by simp) (by omega) (by simp) (by simp) (by simp) (by simp) (by simp) (by simp) (by simp) (by simp) (by simp [tailsV, htc2]) ?_
    simp [htc2, lineV, midM_zero, tailsV]
    exact tail_none (n := t.1.length) (by simp [hsq'.1]) (by omega) (fun j hj => by simp [find_idR hj]) (fun j hj => by simp [hj]) (by decide)
  intro m hmn ihm
  have hsqm := midM_sq (G := t.1) (y := y) (b := kk) (m := m) hsq'
  have hMm : ((midM t.1 y kk m M').map rowO).length ≤ 3000 := by rw [List.length_map, hsqm.1]; omega
  by_cases hmt : m < t.1.length
  case neg =>
    have hme : m = t.1.length := by omega
    subst hme
    simp (disch := omega) [wrap_i64, hMm, htc2]
    refine ihk (k + 1, midM t.1 y kk t.1.length M') none _ ⟨by simp; omega, hsqm, hm⟩ (by simp; omega) (le_tg (kp := [(1, 1), (2, 2)]) (by simp) (by omega) (by simp) (by simp) (by simp) (by simp) (by simp) (by simp) (by simp) (by simp) (by simp [tailsV, htc2]) ?_)
    simp [htc2, tailsV]
    exact tail_none (n := t.1.length) (by simp [hsqm.1]) (by omega) (fun j hj => by simp [find_idR hj]) (fun j hj => by simp [hj]) (by decide)
  by_cases hey : t.1[m] = y
  · obtain ⟨he1, he2⟩ := midM_eq hga y kk M' hmt hey
    rw [he1] at hMm hsqm ⊢
    obtain ⟨r, hrl, hra, hrb, hbu⟩ := bump_at hsq' hmt hkk
    have hsqb := bump_sq (a := m) (b := kk) hsq'
    have hb3 : (bump M' m kk).map rowO = (M'.map rowO).set m (some ((r.map PV.i).set kk (.i (inc r[kk])))) := by
      rw [hbu, List.map_set]; simp [rowO, List.map_set]
    have haL : (M'.map rowO)[m]? = some (some (r.map PV.i)) := by rw [List.getElem?_map, hra]; rfl
    have han : m < 3000 := by omega
    have hrep := fun s' hle => ihm (m + 1) none s' (by omega) (by omega) hle
    simp only [he2] at hrep
    generalize bump M' m kk = M2 at hsqb hb3 hrep
    generalize hLL : M'.map rowO = L at haL hb3 hMm
    simp only [PV.i, inc] at haL hb3
    have hset := fun e => setIn_mat_at (c0 := 1024) (sz := 1) (l' := e) haL
    have hn3 : t.1.length ≤ 3000 := by omega
    simp (disch := omega) [hmt, wrap_i64, lineV, h, hx, hkg, hxg, hey, haL, han, hrb, hn3, tailsV, tailV, natsV, hka, hxa, htc2]
    refine hrep _ (le_tg (kp := [(1, 1), (2, 2)]) (by simp) (by omega) (by simp) (by simp) (by simp) (by simp) (by simp) (by simp) (by simp) (by simp) (by simp [tailsV, tailV, natsV]) ?_)
    simp [htc2, lineV, hb3, hset]
    exact tail_none (n := t.1.length) (by simp [← hLL, hsq'.1]) (by omega) (fun j hj => by simp [find_idR hj]) (fun j hj => by simp [hj]) (by decide)
  · have hne := midM_ne hga y kk M' hmt hey
    simp (disch := omega) [hmt, wrap_i64, lineV, h, hx, hMm, hkg, hxg, hey, htc2]
    refine ihm (m + 1) none _ (by omega) (by omega) (le_tg (kp := [(1, 1), (2, 2)]) (by simp) (by omega) (by simp) (by simp) (by simp) (by simp) (by simp) (by simp) (by simp) (by simp) (by simp [tailsV, htc2]) ?_)
    rw [hne]
    simp [htc2, lineV]
    exact tail_none (n := t.1.length) (by simp [hsqm.1]) (by omega) (fun j hj => by simp [find_idR hj]) (fun j hj => by simp [hj]) (by decide)

end Go.Proofs

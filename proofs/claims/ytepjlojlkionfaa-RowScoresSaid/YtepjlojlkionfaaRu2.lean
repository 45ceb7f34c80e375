/- The walk. -/
import Derived.Test.YtepjlojlkionfaaRt2
import Derived.Test.YtepjlojlkionfaaRu1
import Derived.Test.YtepjlojlkionfaaProg
import Derived.KernelRfl
set_option linter.all false
set_option maxHeartbeats 2000000
namespace Go.Proofs
open Go Go.AM
attribute [local irreducible] Run Ends
/-- ablaut/row.Score -/
def c30 : MC :=
  .seq (.reg false [.op .none 2 (.box false (.t 0)),
    .op .none 4 (.mv (.c (.w (.int .i64 0)))),
    .op .none 5 (.mv (.c (.w (.int .i64 0)))),
    .op .none 6 (.mv (.c (.w (.int .i64 0))))]) <|
  .seq (.seq (.reg false [.op .none 17 (.ld true 6 (.t 2)),
    .op .none 18 (.mv (.t 1)),
    .call .none 19 (.f 67) [(.t 17), (.t 18)],
    .op .none 7 (.mv (.t 19))]) <|
  .seq (.reg false [.op .none 20 (.mv (.t 7)),
    .op .none 21 (.bin .neq (.t 20) (.c (.w (.int .i64 0))))]) <|
  .cond (.t 21)
    (.seq (.reg false [.op .none 22 (.mv (.t 7)),
      .op .none 4 (.mv (.c (.w (.int .i64 0)))),
      .op .none 5 (.mv (.c (.w (.int .i64 0)))),
      .op .none 6 (.mv (.t 22))]) <|
    .ret)
    (.skip)) <|
  .seq (.reg false [.op .none 8 (.mv (.c (.w (.int .i64 0)))),
    .op .none 9 (.mv (.c (.w (.int .i64 0))))]) <|
  .seq (.seq (.reg false [.op .none 23 (.mv (.t 1)),
    .op .none 24 (.len false (.t 23)),
    .op .none 25 (.mv (.c (.w (.int .i64 0))))]) <|
  .block 0 <|
    .loop <|
      .seq (.reg false [.op .none 26 (.bin .lss (.t 25) (.t 24))]) <|
      .seq (.cond (.t 26)
        (.skip)
        (.exit 0)) <|
      .seq (.block 1 <|
        .seq (.reg false [.op .none 27 (.ia 2 (.t 23) (.t 25)),
          .op .none 28 (.ld true 2 (.t 27)),
          .op .none 11 (.alloc true [(.sl 1 []), (.sl 1 [])]),
          .store .none true 2 (.t 11) (.t 28)]) <|
        .seq (.reg false [.op .none 29 (.mv (.t 9)),
          .op .none 30 (.fa 0 (.t 11)),
          .op .none 31 (.ld false 1 (.t 30)),
          .op .none 32 (.len false (.t 31)),
          .op .none 33 (.bin .add (.t 29) (.t 32)),
          .op .none 9 (.mv (.t 33))]) <|
        .seq (.reg false [.op .none 35 (.ld true 6 (.t 2)),
          .op .none 36 (.fa 0 (.t 11)),
          .op .none 37 (.ld false 1 (.t 36)),
          .call .none 38 (.f 15) [(.t 35), (.t 37)],
          .op .none 34 (.mv (.t 38)),
          .op .none 39 (.ext (.t 34) 0),
          .op .none 40 (.ext (.t 34) 1),
          .op .none 41 (.ext (.t 34) 2),
          .op .none 42 (.ext (.t 34) 3),
          .op .none 12 (.mv (.t 39)),
          .op .none 13 (.mv (.t 40)),
          .op .none 14 (.mv (.t 41)),
          .op .none 15 (.mv (.t 42))]) <|
        .seq (.reg false [.op .none 43 (.mv (.t 12)),
          .op .none 44 (.len false (.t 43)),
          .op .none 45 (.mv (.c (.w (.int .i64 0))))]) <|
        .block 2 <|
          .loop <|
            .seq (.reg false [.op .none 46 (.bin .lss (.t 45) (.t 44))]) <|
            .seq (.cond (.t 46)
              (.skip)
              (.exit 2)) <|
            .seq (.block 3 <|
              .seq (.reg false [.op .none 47 (.mv (.t 45)),
                .op .none 16 (.mv (.t 47))]) <|
              .seq (.reg true [.op .none 48 (.mv (.t 14)),
                .op .none 49 (.mv (.t 48)),
                .op (.some (49, true)) 50 (.mv (.t 12)),
                .op (.some (49, true)) 51 (.mv (.t 16)),
                .op (.some (49, true)) 52 (.ia 1 (.t 50) (.t 51)),
                .op (.some (49, true)) 53 (.ld false 1 (.t 52)),
                .op (.some (49, true)) 54 (.fa 1 (.t 11)),
                .op (.some (49, true)) 55 (.ld false 1 (.t 54)),
                .op (.some (49, true)) 56 (.mv (.t 16)),
                .op (.some (49, true)) 57 (.ia 1 (.t 55) (.t 56)),
                .op (.some (49, true)) 58 (.ld false 1 (.t 57)),
                .op (.some (49, true)) 59 (.bin .eql (.t 53) (.t 58)),
                .op .none 60 (.pick (.t 49) (.t 59) (.c (.w (.bool false))))]) <|
              .cond (.t 60)
                (.reg false [.op .none 61 (.mv (.t 8)),
                  .op .none 62 (.bin .add (.t 61) (.c (.w (.int .i64 1)))),
                  .op .none 8 (.mv (.t 62))])
                (.skip)) <|
            .reg false [.op .none 63 (.bin .add (.t 45) (.c (.w (.int .i64 1)))),
              .op .none 45 (.mv (.t 63))]) <|
      .reg false [.op .none 64 (.bin .add (.t 25) (.c (.w (.int .i64 1)))),
        .op .none 25 (.mv (.t 64))]) <|
  .seq (.reg false [.op .none 65 (.mv (.t 8)),
    .op .none 66 (.mv (.t 9)),
    .op .none 4 (.mv (.t 65)),
    .op .none 5 (.mv (.t 66)),
    .op .none 6 (.mv (.c (.w (.int .i64 0))))]) <|
  .ret
theorem k30 : FnCode Try.prog 30 [] 67 [4, 5, 6] c30 := ⟨Try.f30, Try.func30, fun xs W => Try.call30 xs W, by kernel_rfl, by kernel_rfl, by kernel_rfl⟩

/-- ablaut/ablautref19.Score -/
def c31 : MC :=
  .seq (.reg false [.op .none 2 (.box false (.t 0)),
    .op .none 4 (.mv (.c (.w (.int .i64 0)))),
    .op .none 5 (.mv (.c (.w (.int .i64 0)))),
    .op .none 6 (.mv (.c (.w (.int .i64 0))))]) <|
  .seq (.seq (.reg false [.op .none 16 (.ld true 6 (.t 2)),
    .op .none 17 (.mv (.t 1)),
    .call .none 18 (.f 68) [(.t 16), (.t 17)],
    .op .none 7 (.mv (.t 18))]) <|
  .seq (.reg false [.op .none 19 (.mv (.t 7)),
    .op .none 20 (.bin .neq (.t 19) (.c (.w (.int .i64 0))))]) <|
  .cond (.t 20)
    (.seq (.reg false [.op .none 21 (.mv (.t 7)),
      .op .none 4 (.mv (.c (.w (.int .i64 0)))),
      .op .none 5 (.mv (.c (.w (.int .i64 0)))),
      .op .none 6 (.mv (.t 21))]) <|
    .ret)
    (.skip)) <|
  .seq (.reg false [.op .none 8 (.mv (.c (.w (.int .i64 0)))),
    .op .none 9 (.mv (.c (.w (.int .i64 0))))]) <|
  .seq (.seq (.reg false [.op .none 10 (.mv (.c (.w (.int .i64 0))))]) <|
  .block 0 <|
    .loop <|
      .seq (.seq (.reg false [.op .none 22 (.mv (.t 10)),
        .op .none 23 (.mv (.t 1)),
        .op .none 24 (.len false (.t 23)),
        .op .none 25 (.bin .lss (.t 22) (.t 24))]) <|
      .cond (.t 25)
        (.skip)
        (.exit 0)) <|
      .seq (.block 1 <|
        .seq (.reg false [.op .none 28 (.mv (.t 9)),
          .op .none 29 (.mv (.t 1)),
          .op .none 30 (.mv (.t 10)),
          .op .none 31 (.ia 2 (.t 29) (.t 30)),
          .op .none 32 (.fa 0 (.t 31)),
          .op .none 33 (.ld false 1 (.t 32)),
          .op .none 34 (.len false (.t 33)),
          .op .none 35 (.bin .add (.t 28) (.t 34)),
          .op .none 9 (.mv (.t 35))]) <|
        .seq (.reg true [.op .none 37 (.ld true 6 (.t 2)),
          .op .none 38 (.mv (.t 1)),
          .op .none 39 (.mv (.t 10)),
          .op .none 40 (.ia 2 (.t 38) (.t 39)),
          .op .none 41 (.fa 0 (.t 40)),
          .op .none 42 (.ld false 1 (.t 41)),
          .call .none 43 (.f 16) [(.t 37), (.t 42)],
          .op .none 36 (.mv (.t 43)),
          .op .none 44 (.ext (.t 36) 0),
          .op .none 45 (.ext (.t 36) 1),
          .op .none 46 (.ext (.t 36) 2),
          .op .none 47 (.ext (.t 36) 3),
          .op .none 11 (.mv (.t 44)),
          .op .none 12 (.mv (.t 45)),
          .op .none 13 (.mv (.t 46)),
          .op .none 14 (.mv (.t 47))]) <|
        .seq (.reg false [.op .none 15 (.mv (.c (.w (.int .i64 0))))]) <|
        .block 2 <|
          .loop <|
            .seq (.seq (.reg false [.op .none 48 (.mv (.t 15)),
              .op .none 49 (.mv (.t 1)),
              .op .none 50 (.mv (.t 10)),
              .op .none 51 (.ia 2 (.t 49) (.t 50)),
              .op .none 52 (.fa 1 (.t 51)),
              .op .none 53 (.ld false 1 (.t 52)),
              .op .none 54 (.len false (.t 53)),
              .op .none 55 (.bin .lss (.t 48) (.t 54)),
              .op .none 56 (.mv (.t 55)),
              .op (.some (56, true)) 57 (.mv (.t 13)),
              .op .none 58 (.pick (.t 56) (.t 57) (.c (.w (.bool false))))]) <|
            .cond (.t 58)
              (.skip)
              (.exit 2)) <|
            .seq (.block 3 <|
              .seq (.reg true [.op .none 61 (.mv (.t 11)),
                .op .none 62 (.mv (.t 15)),
                .op .none 63 (.ia 1 (.t 61) (.t 62)),
                .op .none 64 (.ld false 1 (.t 63)),
                .op .none 65 (.mv (.t 1)),
                .op .none 66 (.mv (.t 10)),
                .op .none 67 (.ia 2 (.t 65) (.t 66)),
                .op .none 68 (.fa 1 (.t 67)),
                .op .none 69 (.ld false 1 (.t 68)),
                .op .none 70 (.mv (.t 15)),
                .op .none 71 (.ia 1 (.t 69) (.t 70)),
                .op .none 72 (.ld false 1 (.t 71)),
                .op .none 73 (.bin .eql (.t 64) (.t 72))]) <|
              .cond (.t 73)
                (.reg false [.op .none 74 (.mv (.t 8)),
                  .op .none 75 (.bin .add (.t 74) (.c (.w (.int .i64 1)))),
                  .op .none 8 (.mv (.t 75))])
                (.skip)) <|
            .reg false [.op .none 59 (.mv (.t 15)),
              .op .none 60 (.bin .add (.t 59) (.c (.w (.int .i64 1)))),
              .op .none 15 (.mv (.t 60))]) <|
      .reg false [.op .none 26 (.mv (.t 10)),
        .op .none 27 (.bin .add (.t 26) (.c (.w (.int .i64 1)))),
        .op .none 10 (.mv (.t 27))]) <|
  .seq (.reg false [.op .none 76 (.mv (.t 8)),
    .op .none 77 (.mv (.t 9)),
    .op .none 4 (.mv (.t 76)),
    .op .none 5 (.mv (.t 77)),
    .op .none 6 (.mv (.c (.w (.int .i64 0))))]) <|
  .ret
theorem k31 : FnCode Try.prog 31 [] 78 [4, 5, 6] c31 := ⟨Try.f31, Try.func31, fun xs W => Try.call31 xs W, by kernel_rfl, by kernel_rfl, by kernel_rfl⟩

def inc (n : Int) : Int := IntKind.i64.wrap (n + 1)
def hitN : List Bs → List Bs → Int → Int
  | a :: A, b :: B, n => hitN A B (if a = b then inc n else n)
  | _, _, n => n
def scL (t : TagT) : List LineT → Int → Int → Int × Int
  | [], r, a => (r, a)
  | x :: l, r, a => scL t l (hitN (bestF t x.1).1 x.2.1 r) (IntKind.i64.wrap (a + x.1.length))
def scF (t : TagT) (l : List LineT) : Int × Int × Int := if tstF t l ≠ 0 then (0, 0, tstF t l) else ((scL t l 0 0).1, (scL t l 0 0).2, 0)
theorem bestF_cases (t : TagT) (l : List Bs) : ((bestF t l).2.2.1 = true ∧ (bestF t l).1.length = l.length) ∨ ((bestF t l).2.2.1 = false ∧ (bestF t l).1 = []) := by
  unfold bestF
  have hg : ∀ a ∈ (sevF t l 1).1, a.length = l.length := by
    unfold sevF
    by_cases h1 : chkF t l.length = 0
    · have h1' : ¬ chkF t l.length ≠ 0 := by simpa using h1
      rw [if_neg h1', if_neg (by omega)]
      obtain ⟨hT, hn⟩ := chkF_ok h1
      exact fun a ha => (sevP_good hT (1 : Int).toNat l.length (Nat.le_refl _) a (List.mem_of_mem_take ha)).len
    · rw [if_pos h1]; simp
  generalize sevF t l 1 = s at hg ⊢
  obtain ⟨rows, more, e⟩ := s
  simp only at hg ⊢
  split
  · exact .inr ⟨rfl, rfl⟩
  · cases rows with
    | nil => exact .inr ⟨rfl, rfl⟩
    | cons a r => exact .inl ⟨rfl, by simpa using hg a (by simp)⟩
theorem tstF_fit {t : TagT} {l : List LineT} (h : tstF t l = 0) : ∀ x ∈ l, x.1.length = x.2.1.length := by
  intro x hx
  unfold tstF at h
  split at h
  · rename_i h1; exact (h1 h).elim
  · split at h
    · cases h
    · split at h
      · cases h
      · split at h
        · cases h
        · rename_i q
          apply Classical.byContradiction
          intro hne
          exact q (List.any_eq_true.2 ⟨x, hx, by simpa [unlLn] using hne⟩)
theorem fok30 (t : TagT) (l : List LineT) (ht : tagS t) (hl : linesS l) : FOk Try.prog 30 [.v (tagV t), .v (linesV l)] [] (.tup [.I (scF t l).1, .I (scF t l).2.1, .I (scF t l).2.2]) [] := by
  have h1 := fok67 t l ht hl.n
  have hfit := tstF_fit (t := t) (l := l)
  have hb := fun w (h : w.length ≤ 200000000000000) => fok15 t w ht h
  have hbc := bestF_cases t
  obtain ⟨hn, hw⟩ := hl
  have htc2 : tagV t = .st [.word t.1, intsV t.2.1, intsV t.2.2.1, .sl 1 (t.2.2.2.1.map intsV), .sl 2 (t.2.2.2.2.1.map worthV), intsV t.2.2.2.2.2.1] := by
    obtain ⟨G, Fi, Z, P, W, U, uu⟩ := t; rfl
  unfold scF
  have hsc : ∀ x l r a, scL t (x :: l) r a = scL t l (hitN (bestF t x.1).1 x.2.1 r) (IntKind.i64.wrap (a + x.1.length)) := fun _ _ _ _ => rfl
  have hs0 : ∀ r a, scL t [] r a = (r, a) := fun _ _ => rfl
  generalize scL t = sc at hsc hs0 ⊢
  generalize bestF t = bF at hb hbc hsc
  generalize tstF t l = v at h1 hfit ⊢
  rw [htc2] at h1 hb ⊢
  refine FOk.val k30 (by simp) (by simp) (by decide) ?_
  simp [c30]
  refine CallG.lent rfl rfl rfl rfl h1 rfl ?_
  by_cases hv : v = 0
  case neg =>
    simp [hv]
    exact Ends.v rfl (by simp [hv])
  have hfit2 := hfit hv
  clear hfit
  subst hv
  simp only [linesV]
  simp
  generalize hres : sc l 0 0 = res
  refine Run.loopA (ι := Nat × Int × Int) [(1, 2)] (fun q => q.1 ≤ l.length ∧ sc (l.drop q.1) q.2.1 q.2.2 = res) (fun q => ⟨[(2, .ptr 1 0 0), (8, .I q.2.1), (9, .I q.2.2), (23, .v (.sl 2 (l.map lineV))), (24, .I l.length), (25, .I q.1)], [(1, ⟨false, 6, [tagV t]⟩)], 1024⟩) (fun q => l.length - q.1) (0, 0, 0) (by decide) (by simp [htc2]) ⟨by simp, by simpa using hres⟩ ?_
  rintro ⟨i, r, a⟩ ⟨hi, hall⟩ ih
  simp only at hi hall ih
  by_cases h : i < l.length
  · rw [drop_at h, hsc] at hall
    have hbb := hb _ (hw _ (List.getElem_mem h)).1.1
    have hcc := hbc l[i].1
    have hff := hfit2 _ (List.getElem_mem h)
    have hyl := (hw _ (List.getElem_mem h)).2.1
    generalize bF l[i].1 = b at hbb hcc hall
    generalize hx : l[i] = x at hbb hcc hff hyl hall
    obtain ⟨w, g, u⟩ := x
    obtain ⟨A, cst, ok, e⟩ := b
    simp only at hbb hcc hff hyl hall
    simp (disch := omega) [h, wrap_i64, hx, lineV, htc2]
    refine CallG.plain rfl rfl rfl rfl hbb (by simp) (by simp) ?_
    simp (disch := omega) [wrap_i64]
    generalize hn1 : hitN A g r = r1 at hall
    generalize IntKind.i64.wrap (a + w.length) = a1 at hall
    refine Run.loopA (ι := Nat × Int) [(1, 2), (2, 11)] (fun q => q.1 ≤ A.length ∧ hitN (A.drop q.1) (g.drop q.1) q.2 = r1) (fun q => ⟨[(2, .ptr 1 0 0), (8, .I q.2), (9, .I a1), (11, .ptr 2 0 0), (12, .v (.word A)), (14, .B ok), (23, .v (.sl 2 (l.map lineV))), (24, .I l.length), (25, .I i), (44, .I A.length), (45, .I q.1)], [(2, ⟨false, 2, [lineV (w, g, u)]⟩), (1, ⟨false, 6, [tagV t]⟩)], 1024⟩) (fun q => A.length - q.1) (0, r) (by decide) (by simp [htc2, lineV]) ⟨by simp, by simpa using hn1⟩ ?_
    rintro ⟨k, m⟩ ⟨hk, hm⟩ ihk
    simp only at hk hm ihk
    by_cases hkA : k < A.length
    · rcases hcc with ⟨rfl, hlen⟩ | ⟨_, rfl⟩
      rotate_left
      · simp at hkA
      have hkg : k < g.length := by omega
      rw [drop_at hkA, drop_at hkg] at hm
      simp only [hitN] at hm
      by_cases q : A[k] = g[k]
      · rw [if_pos q] at hm
        simp (disch := omega) [hkA, hkg, wrap_i64, lineV, q]
        exact ihk (k + 1, inc m) _ ⟨by simp; omega, hm⟩ (by simp; omega) (by simp [htc2, lineV, inc])
      · rw [if_neg q] at hm
        simp (disch := omega) [hkA, hkg, wrap_i64, lineV, q]
        exact ihk (k + 1, m) _ ⟨by simp; omega, hm⟩ (by simp; omega) (by simp [htc2, lineV])
    · rw [drop_no hkA] at hm
      have : m = r1 := by rw [← hm]; cases g.drop k <;> rfl
      subst this
      simp (disch := omega) [hkA, wrap_i64]
      exact ih (i + 1, m, a1) _ ⟨by simp; omega, hall⟩ (by simp; omega) (by simp [htc2])
  · rw [drop_no h, hs0] at hall
    subst hall
    simp [h]
    exact Ends.v rfl (by simp)
theorem fok31 (t : TagT) (l : List LineT) (ht : tagS t) (hl : linesS l) : FOk Try.prog 31 [.v (tagV t), .v (linesV l)] [] (.tup [.I (scF t l).1, .I (scF t l).2.1, .I (scF t l).2.2]) [] := by
  have h1 := fok68 t l ht hl.n
  have hfit := tstF_fit (t := t) (l := l)
  have hb : ∀ w : List Bs, w.length ≤ 200000000000000 → FOk Try.prog 16 [.v (tagV t), .v (.word w)] [] (.tup [.v (.word (bestF t w).1), .I (bestF t w).2.1, .B (bestF t w).2.2.1, .I (bestF t w).2.2.2]) [] := fun w h => by
    have := fok16 t w ht h
    rw [best_same] at this
    exact this
  have hbc := bestF_cases t
  obtain ⟨hn, hw⟩ := hl
  have htc2 : tagV t = .st [.word t.1, intsV t.2.1, intsV t.2.2.1, .sl 1 (t.2.2.2.1.map intsV), .sl 2 (t.2.2.2.2.1.map worthV), intsV t.2.2.2.2.2.1] := by
    obtain ⟨G, Fi, Z, P, W, U, uu⟩ := t; rfl
  unfold scF
  have hsc : ∀ x l r a, scL t (x :: l) r a = scL t l (hitN (bestF t x.1).1 x.2.1 r) (IntKind.i64.wrap (a + x.1.length)) := fun _ _ _ _ => rfl
  have hs0 : ∀ r a, scL t [] r a = (r, a) := fun _ _ => rfl
  generalize scL t = sc at hsc hs0 ⊢
  generalize bestF t = bF at hb hbc hsc
  generalize tstF t l = v at h1 hfit ⊢
  rw [htc2] at h1 hb ⊢
  refine FOk.val k31 (by simp) (by simp) (by decide) ?_
  simp [c31]
  refine CallG.lent rfl rfl rfl rfl h1 rfl ?_
  by_cases hv : v = 0
  case neg =>
    simp [hv]
    exact Ends.v rfl (by simp [hv])
  have hfit2 := hfit hv
  clear hfit
  subst hv
  simp only [linesV]
  simp
  generalize hres : sc l 0 0 = res
  refine Run.loopA (ι := Nat × Int × Int) [(1, 2)] (fun q => q.1 ≤ l.length ∧ sc (l.drop q.1) q.2.1 q.2.2 = res) (fun q => ⟨[(1, .v (.sl 2 (l.map lineV))), (2, .ptr 1 0 0), (8, .I q.2.1), (9, .I q.2.2), (10, .I q.1)], [(1, ⟨false, 6, [tagV t]⟩)], 1024⟩) (fun q => l.length - q.1) (0, 0, 0) (by decide) (by simp [htc2]) ⟨by simp, by simpa using hres⟩ ?_
  rintro ⟨i, r, a⟩ ⟨hi, hall⟩ ih
  simp only at hi hall ih
  by_cases h : i < l.length
  · rw [drop_at h, hsc] at hall
    have hbb := hb _ (hw _ (List.getElem_mem h)).1.1
    have hcc := hbc l[i].1
    have hff := hfit2 _ (List.getElem_mem h)
    have hyl := (hw _ (List.getElem_mem h)).2.1
    generalize bF l[i].1 = b at hbb hcc hall
    generalize hx : l[i] = x at hbb hcc hff hyl hall
    obtain ⟨w, g, u⟩ := x
    obtain ⟨A, cst, ok, e⟩ := b
    simp only at hbb hcc hff hyl hall
    simp (disch := omega) [h, wrap_i64, hx, lineV, htc2]
    refine CallG.plain rfl rfl rfl rfl hbb (by simp) (by simp) ?_
    simp (disch := omega) [wrap_i64]
    generalize hn1 : hitN A g r = r1 at hall
    generalize IntKind.i64.wrap (a + w.length) = a1 at hall
    refine Run.loopA (ι := Nat × Int) [(1, 2)] (fun q => q.1 ≤ g.length ∧ hitN (A.drop q.1) (g.drop q.1) q.2 = r1) (fun q => ⟨[(1, .v (.sl 2 (l.map lineV))), (2, .ptr 1 0 0), (8, .I q.2), (9, .I a1), (10, .I i), (11, .v (.word A)), (13, .B ok), (15, .I q.1)], [(1, ⟨false, 6, [tagV t]⟩)], 1024⟩) (fun q => g.length - q.1) (0, r) (by decide) (by simp [htc2]) ⟨by simp, by simpa using hn1⟩ ?_
    rintro ⟨k, m⟩ ⟨hk, hm⟩ ihk
    simp only at hk hm ihk
    by_cases hkg : k < g.length
    · rcases hcc with ⟨rfl, hlen⟩ | ⟨rfl, rfl⟩
      · have hkA : k < A.length := by omega
        rw [drop_at hkA, drop_at hkg] at hm
        simp only [hitN] at hm
        by_cases q : A[k] = g[k]
        · rw [if_pos q] at hm
          simp (disch := omega) [hkA, hkg, wrap_i64, lineV, q, h, hx]
          exact ihk (k + 1, inc m) _ ⟨by simp; omega, hm⟩ (by simp; omega) (by simp [htc2, inc])
        · rw [if_neg q] at hm
          simp (disch := omega) [hkA, hkg, wrap_i64, lineV, q, h, hx]
          exact ihk (k + 1, m) _ ⟨by simp; omega, hm⟩ (by simp; omega) (by simp [htc2])
      · rw [List.drop_nil] at hm
        simp only [hitN] at hm
        subst hm
        simp (disch := omega) [hkg, wrap_i64, lineV, h, hx]
        exact ih (i + 1, m, a1) _ ⟨by simp; omega, hall⟩ (by simp; omega) (by simp [htc2])
    · have hgd : g.drop k = [] := drop_no hkg
      have : m = r1 := by rw [← hm, hgd]; cases A.drop k <;> rfl
      subst this
      simp (disch := omega) [hkg, wrap_i64, lineV, h, hx]
      exact ih (i + 1, m, a1) _ ⟨by simp; omega, hall⟩ (by simp; omega) (by simp [htc2])
  · rw [drop_no h, hs0] at hall
    subst hall
    simp [h]
    exact Ends.v rfl (by simp)

end Go.Proofs

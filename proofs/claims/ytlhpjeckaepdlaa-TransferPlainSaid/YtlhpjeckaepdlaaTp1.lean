/- The walk. -/
import Derived.Test.YtlhpjeckaepdlaaTs13
import Derived.Test.YtlhpjeckaepdlaaProg
import Derived.KernelRfl
set_option linter.all false
set_option maxHeartbeats 2000000
namespace Go.Proofs
open Go Go.AM
attribute [local irreducible] Run Ends
/-- ablaut/transfer.Word -/
def c26 : MC :=
  .seq (.reg false [.op .none 2 (.box false (.t 0)),
    .op .none 3 (.box false (.t 1)),
    .op .none 4 (.alloc true [(.w (.string ⟨#[]⟩)), (.sl 1 [])]),
    .op .none 5 (.mv (.c (.w (.bool false)))),
    .op .none 6 (.mv (.c (.w (.int .i64 0))))]) <|
  .seq (.seq (.reg false [.op .none 10 (.ld true 2 (.t 2)),
    .op .none 11 (.ld true 2 (.t 3)),
    .op .none 12 (.buildS false 2 1 true [(.w (.string ⟨#[]⟩)), (.sl 1 [])] [(0, (.t 11))]),
    .call .none 13 (.f 57) [(.t 10), (.t 12)],
    .op .none 7 (.mv (.t 13))]) <|
  .seq (.reg false [.op .none 14 (.mv (.t 7)),
    .op .none 15 (.bin .neq (.t 14) (.c (.w (.int .i64 0))))]) <|
  .cond (.t 15)
    (.seq (.reg false [.op .none 16 (.build false [(.w (.string ⟨#[]⟩)), (.sl 1 [])] []),
      .op .none 17 (.mv (.t 7)),
      .store .none true 2 (.t 4) (.t 16),
      .op .none 5 (.mv (.c (.w (.bool false)))),
      .op .none 6 (.mv (.t 17))]) <|
    .ret)
    (.skip)) <|
  .seq (.reg false [.op .none 19 (.ld true 2 (.t 2)),
    .op .none 20 (.ld true 2 (.t 3)),
    .call .none 21 (.f 58) [(.t 19), (.t 20)],
    .op .none 18 (.mv (.t 21)),
    .op .none 22 (.ext (.t 18) 0),
    .op .none 23 (.ext (.t 18) 1),
    .op .none 8 (.alloc true [(.w (.string ⟨#[]⟩)), (.sl 1 [])]),
    .store .none true 2 (.t 8) (.t 22),
    .op .none 9 (.mv (.t 23))]) <|
  .seq (.block 0 <|
    .seq (.reg false [.op .none 25 (.mv (.t 9)),
      .op .none 26 (.un .not (.t 25)),
      .op .none 24 (.mv (.t 26))]) <|
    .cond (.t 24)
      (.seq (.reg false [.op .none 27 (.build false [(.w (.string ⟨#[]⟩)), (.sl 1 [])] []),
        .store .none true 2 (.t 4) (.t 27),
        .op .none 5 (.mv (.c (.w (.bool false)))),
        .op .none 6 (.mv (.c (.w (.int .i64 0))))]) <|
      .ret)
      (.seq (.reg false [.op .none 29 (.fa 1 (.t 8)),
        .op .none 30 (.ld false 1 (.t 29)),
        .op .none 31 (.len false (.t 30)),
        .op .none 32 (.bin .gtr (.t 31) (.c (.w (.int .i64 16)))),
        .op .none 28 (.mv (.t 32))]) <|
      .cond (.t 28)
        (.seq (.reg false [.op .none 33 (.build false [(.w (.string ⟨#[]⟩)), (.sl 1 [])] []),
          .store .none true 2 (.t 4) (.t 33),
          .op .none 5 (.mv (.c (.w (.bool false)))),
          .op .none 6 (.mv (.c (.w (.int .i64 3))))]) <|
        .ret)
        (.skip))) <|
  .seq (.reg false [.op .none 34 (.ld true 2 (.t 8)),
    .store .none true 2 (.t 4) (.t 34),
    .op .none 5 (.mv (.c (.w (.bool true)))),
    .op .none 6 (.mv (.c (.w (.int .i64 0))))]) <|
  .ret
theorem k26 : FnCode Try.prog 26 [] 35 [5000054000004, 5, 6] c26 := ⟨Try.f26, Try.func26, fun xs W => Try.call26 xs W, by kernel_rfl, by kernel_rfl, by kernel_rfl⟩

theorem fokUh (x : List UnitT) (hl : x.length ≤ 200000000000000) (ht : ∀ u ∈ x, u.2.1.length ≤ 200000000000000) : FOk Try.prog 21 [.h 0, .v (.sl 2 (x.map unitV))] [(0, ⟨false, 2, x.map unitV⟩)] (.B true) [(0, ⟨false, 2, x.map unitV⟩)] := by
  refine FOk.of k21 1 (by simp) (by decide) (by simp) (by simp) (by intro k e e' g1 g2; rw [g1] at g2; cases g2; rfl) (by decide) ?_
  simp [c21]
  refine Run.loopA (ι := Nat) [(0, 0)] (fun i => i ≤ x.length) (fun i => ⟨[(0, .h 0), (1, .v (.sl 2 (x.map unitV))), (5, .I i)], [(0, ⟨false, 2, x.map unitV⟩)], 1024⟩) (fun i => x.length - i) 0 (by decide) (by simp) (by simp) ?_
  rintro i hi ih
  by_cases h : i < x.length
  · have hu := ht _ (List.getElem_mem h)
    generalize hx : x[i] = u at hu
    obtain ⟨b, t, v⟩ := u
    simp only at hu
    have k1 := fok32 t t hu hu
    simp at k1
    simp (disch := omega) [h, wrap_i64, hx, unitV]
    refine CallG.lent rfl rfl rfl rfl k1 rfl ?_
    simp (disch := omega) [wrap_i64]
    exact ih (i + 1) _ (by omega) (by omega) (by simp)
  · simp [h]
    exact Ends.one rfl rfl rfl rfl
def wordR (b : BrT) (x : UnitT) : UnitT × Bool × Int :=
  if bothF b [x] ≠ 0 then (([], [], ()), false, bothF b [x]) else
  if (wordF b.1 x).2 = false then (([], [], ()), false, 0) else
  if 16 < (wordF b.1 x).1.2.1.length then (([], [], ()), false, 3) else ((wordF b.1 x).1, true, 0)
theorem fok26 (b : BrT) (x : UnitT) (hb : brS b) (hx : unitS x) : FOk Try.prog 26 [.v (brV b), .v (unitV x)] [] (.tup [.v (unitV (wordR b x).1), .B (wordR b x).2.1, .I (wordR b x).2.2]) [] := by
  have h1 := fok57 b [x] hb (by simp) (by simpa using hx)
  have h0 : bothF b [x] = 0 → FOk Try.prog 58 [.v (brV b), .v (unitV x)] [] (.tup [.v (unitV (wordF b.1 x).1), .B (wordF b.1 x).2]) [] := fun h => by
    have hO := both0 h
    have := hO.tags x (by simp)
    exact fok58 b x hb hO.put hx (by omega)
  unfold wordR
  generalize bothF b [x] = v at h0 h1 ⊢
  generalize wordF b.1 x = y at h0 ⊢
  obtain ⟨R, S, u⟩ := b
  obtain ⟨c, w, t⟩ := x
  obtain ⟨⟨yc, yw, yt⟩, ok⟩ := y
  simp only [brV, unitV, List.map_cons, List.map_nil] at h0 h1
  refine FOk.val k26 (by simp) (by simp) (by decide) ?_
  simp [c26, brV, unitV]
  refine CallG.lent rfl rfl rfl rfl h1 rfl ?_
  by_cases hv : v = 0
  case neg =>
    simp [hv]
    exact Ends.v rfl (by simp [hv])
  subst hv
  specialize h0 rfl
  simp
  refine CallG.plain rfl rfl rfl rfl h0 (by simp) (by simp) ?_
  cases ok
  · simp
    exact Ends.v rfl (by simp)
  simp
  by_cases hl : 16 < yw.length
  · have hl2 : ¬ yw.length ≤ 16 := by omega
    simp [hl, hl2]
    exact Ends.v rfl (by simp [hl])
  · have hl2 : yw.length ≤ 16 := by omega
    simp [hl, hl2]
    exact Ends.v rfl (by simp [hl])
theorem chF_nil (l : List UnitT) : ∀ (n a : Nat), chF [] l n a = []
  | 0, _ => rfl
  | n + 1, a => by
    simp only [chF, ruleO]
    split
    · exact chF_nil l n (a + 1)
    · rfl
theorem transF_plain {R : List TurnT} {l : List UnitT} (h : (transF (R, [], ()) l).2 = 0) : (transF (R, [], ()) l).1 = wordsF R l ∧ ∀ x ∈ wordsF R l, x.2.1.length ≤ 16 := by
  unfold transF at h ⊢
  simp only at h ⊢
  split at h
  · rename_i h1; exact absurd h h1
  rename_i h1
  rw [if_neg h1]
  split at h
  · cases h
  rename_i h2
  rw [if_neg h2]
  split at h
  · cases h
  rename_i h3
  rw [if_neg h3]
  split at h
  · cases h
  rename_i h4
  rw [if_neg h4]
  refine ⟨by simp [chunksF, chF_nil, outF], fun x hx => ?_⟩
  have : ¬ many x = true := fun e => h2 (List.any_eq_true.2 ⟨x, hx, e⟩)
  simp only [many, decide_eq_true_eq] at this
  omega
theorem bothF_one {b : BrT} {l : List UnitT} (h : bothF b l = 0) {x : UnitT} (hx : x ∈ l) : bothF b [x] = 0 := by
  unfold bothF at h ⊢
  split at h
  · rename_i hv
    rw [if_pos hv]
    unfold unitsF at h ⊢
    split at h
    · cases h
    split at h
    · cases h
    rename_i h2
    split at h
    · cases h
    rename_i h3
    have e1 : unitLng x = false := by
      cases e : unitLng x
      · rfl
      · exact (h2 (List.any_eq_true.2 ⟨x, hx, e⟩)).elim
    have e2 : unitBad x = false := by
      cases e : unitBad x
      · rfl
      · exact (h3 (List.any_eq_true.2 ⟨x, hx, e⟩)).elim
    simp [e1, e2]
  · rename_i hv; exact absurd h hv
theorem rowF_word (R : List TurnT) (x : UnitT) : (rowF R x < 0 ∧ (wordF R x).2 = false ∧ (wordF R x).1 = x) ∨ (¬ rowF R x < 0 ∧ (wordF R x).2 = true) := by
  unfold rowF wordF
  rcases idxF_find (rowP x) R 0 with ⟨q, hq⟩ | ⟨k, hk0, hk, hkf, hkp, hkn⟩
  · rw [q, hq]; exact .inl ⟨by omega, rfl, rfl⟩
  · rw [hk0, hkf]; exact .inr ⟨by omega, rfl⟩

end Go.Proofs

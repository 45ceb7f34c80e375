/- The walk. -/
import Derived.Test.YtlhpjeckaepdlaaTs9
import Derived.Test.YtlhpjeckaepdlaaProg
import Derived.KernelRfl
set_option linter.all false
set_option maxHeartbeats 2000000
namespace Go.Proofs
open Go Go.AM
attribute [local irreducible] Run Ends
/-- ablaut/ablautref28.slot -/
def c65 : MC :=
  .seq (.reg false [.op .none 3 (.box false (.t 0)),
    .op .none 6 (.alloc true [(.w (.string ⟨#[]⟩)), (.sl 1 [])])]) <|
  .seq (.reg true [.op .none 12 (.fa 1 (.t 3)),
    .op .none 13 (.ld false 1 (.t 12)),
    .op .none 14 (.fa 2 (.t 3)),
    .op .none 15 (.ld false 1 (.t 14)),
    .op .none 16 (.clnV 1 16 (.t 15)),
    .op .none 17 (.build false [(.w (.string ⟨#[]⟩)), (.sl 1 [])] [(0, 1, (.t 13)), (1, 1, (.t 16))]),
    .op .none 7 (.alloc true [(.w (.string ⟨#[]⟩)), (.sl 1 [])]),
    .store .none true 2 (.t 7) (.t 17)]) <|
  .seq (.seq (.reg false [.op .none 18 (.fa 0 (.t 3)),
    .op .none 19 (.ld false 1 (.t 18)),
    .op .none 20 (.bin .geq (.t 19) (.c (.w (.int .i64 0))))]) <|
  .cond (.t 20)
    (.reg false [.op .none 21 (.mv (.t 2)),
      .op .none 22 (.fa 0 (.t 3)),
      .op .none 23 (.ld false 1 (.t 22)),
      .op .none 24 (.ia 2 (.t 21) (.t 23)),
      .op .none 25 (.ld true 2 (.t 24)),
      .call .none 26 (.f 99) [(.t 25)],
      .store .none true 2 (.t 7) (.t 26)])
    (.skip)) <|
  .seq (.seq (.reg false [.op .none 27 (.fa 3 (.t 3)),
    .op .none 28 (.ld false 1 (.t 27)),
    .op .none 29 (.bin .lss (.t 28) (.c (.w (.int .i64 0))))]) <|
  .cond (.t 29)
    (.seq (.reg false [.op .none 30 (.ld true 2 (.t 7)),
      .store .none true 2 (.t 6) (.t 30)]) <|
    .ret)
    (.skip)) <|
  .seq (.reg false [.op .none 8 (.nilS 1),
    .op .none 9 (.nilS 1)]) <|
  .seq (.seq (.reg false [.op .none 10 (.mv (.c (.w (.int .i64 0))))]) <|
  .block 0 <|
    .loop <|
      .seq (.seq (.reg false [.op .none 31 (.mv (.t 10)),
        .op .none 32 (.fa 1 (.t 7)),
        .op .none 33 (.ld false 1 (.t 32)),
        .op .none 34 (.len false (.t 33)),
        .op .none 35 (.bin .lss (.t 31) (.t 34))]) <|
      .cond (.t 35)
        (.skip)
        (.exit 0)) <|
      .seq (.block 1 <|
        .seq (.reg true [.op .none 38 (.fa 4 (.t 3)),
          .op .none 39 (.ld false 1 (.t 38)),
          .op .none 40 (.fa 1 (.t 7)),
          .op .none 41 (.ld false 1 (.t 40)),
          .op .none 42 (.mv (.t 10)),
          .op .none 43 (.ia 1 (.t 41) (.t 42)),
          .op .none 44 (.ld false 1 (.t 43)),
          .call .none 45 (.f 71) [(.t 39), (.t 44)],
          .op .none 46 (.un .not (.t 45)),
          .op .none 47 (.mv (.t 46)),
          .op (.some (47, false)) 48 (.mv (.t 1)),
          .op (.some (47, false)) 49 (.fa 3 (.t 3)),
          .op (.some (47, false)) 50 (.ld false 1 (.t 49)),
          .op (.some (47, false)) 51 (.ia 2 (.t 48) (.t 50)),
          .op (.some (47, false)) 52 (.fa 1 (.t 51)),
          .op (.some (47, false)) 53 (.ld false 1 (.t 52)),
          .op (.some (47, false)) 54 (.fa 1 (.t 7)),
          .op (.some (47, false)) 55 (.ld false 1 (.t 54)),
          .op (.some (47, false)) 56 (.mv (.t 10)),
          .op (.some (47, false)) 57 (.ia 1 (.t 55) (.t 56)),
          .op (.some (47, false)) 58 (.ld false 1 (.t 57)),
          .call (.some (47, false)) 59 (.f 71) [(.t 53), (.t 58)],
          .op .none 60 (.pick (.t 47) (.c (.w (.bool true))) (.t 59))]) <|
        .cond (.t 60)
          (.reg false [.op .none 61 (.mv (.t 8)),
            .op .none 62 (.fa 1 (.t 7)),
            .op .none 63 (.ld false 1 (.t 62)),
            .op .none 64 (.mv (.t 10)),
            .op .none 65 (.ia 1 (.t 63) (.t 64)),
            .op .none 66 (.ld false 1 (.t 65)),
            .op .none 67 (.buildS false 1 1 false [(.w (.string ⟨#[]⟩))] [(0, (.t 66))]),
            .op .none 68 (.app 1 16 (.t 61) (.t 67)),
            .op .none 8 (.mv (.t 68))])
          (.skip)) <|
      .reg false [.op .none 36 (.mv (.t 10)),
        .op .none 37 (.bin .add (.t 36) (.c (.w (.int .i64 1)))),
        .op .none 10 (.mv (.t 37))]) <|
  .seq (.seq (.reg false [.op .none 11 (.mv (.c (.w (.int .i64 0))))]) <|
  .block 2 <|
    .loop <|
      .seq (.seq (.reg false [.op .none 69 (.mv (.t 11)),
        .op .none 70 (.fa 4 (.t 3)),
        .op .none 71 (.ld false 1 (.t 70)),
        .op .none 72 (.len false (.t 71)),
        .op .none 73 (.bin .lss (.t 69) (.t 72))]) <|
      .cond (.t 73)
        (.skip)
        (.exit 2)) <|
      .seq (.block 3 <|
        .seq (.reg true [.op .none 76 (.mv (.t 1)),
          .op .none 77 (.fa 3 (.t 3)),
          .op .none 78 (.ld false 1 (.t 77)),
          .op .none 79 (.ia 2 (.t 76) (.t 78)),
          .op .none 80 (.fa 1 (.t 79)),
          .op .none 81 (.ld false 1 (.t 80)),
          .op .none 82 (.fa 4 (.t 3)),
          .op .none 83 (.ld false 1 (.t 82)),
          .op .none 84 (.mv (.t 11)),
          .op .none 85 (.ia 1 (.t 83) (.t 84)),
          .op .none 86 (.ld false 1 (.t 85)),
          .call .none 87 (.f 71) [(.t 81), (.t 86)]]) <|
        .cond (.t 87)
          (.reg false [.op .none 88 (.mv (.t 9)),
            .op .none 89 (.fa 4 (.t 3)),
            .op .none 90 (.ld false 1 (.t 89)),
            .op .none 91 (.mv (.t 11)),
            .op .none 92 (.ia 1 (.t 90) (.t 91)),
            .op .none 93 (.ld false 1 (.t 92)),
            .op .none 94 (.buildS false 1 1 false [(.w (.string ⟨#[]⟩))] [(0, (.t 93))]),
            .op .none 95 (.app 1 16 (.t 88) (.t 94)),
            .op .none 9 (.mv (.t 95))])
          (.skip)) <|
      .reg false [.op .none 74 (.mv (.t 11)),
        .op .none 75 (.bin .add (.t 74) (.c (.w (.int .i64 1)))),
        .op .none 11 (.mv (.t 75))]) <|
  .seq (.reg false [.op .none 96 (.mv (.t 8)),
    .op .none 97 (.mv (.t 9)),
    .call .none 98 (.f 100) [(.t 96), (.t 97)],
    .op .none 99 (.fa 1 (.t 7)),
    .store .none false 1 (.t 99) (.t 98)]) <|
  .seq (.reg false [.op .none 100 (.ld true 2 (.t 7)),
    .store .none true 2 (.t 6) (.t 100)]) <|
  .ret
theorem k65 : FnCode Try.prog 65 [600016] 101 [5000054000006] c65 := ⟨Try.f65, Try.func65, fun xs W => Try.call65 xs W, by kernel_rfl, by kernel_rfl, by kernel_rfl⟩

theorem fok101 (b : BrT) (l : List UnitT) (a : Nat) (hb : brS b) (hl : l.length ≤ 200000000000000) (ha : a ≤ l.length) (hu : ∀ u ∈ l, unitS u) : FOk Try.prog 101 [.v (brV b), .v (.sl 2 (l.map unitV)), .I a] [] (.I (bI (ruleO (l.drop a) b.2.1 0 none))) [] := by
  obtain ⟨R, S, u⟩ := b
  obtain ⟨b1, b2, b3, b4⟩ := hb
  simp only at b1 b2 b3 b4
  refine FOk.val k101 (by simp) (by simp) (by decide) ?_
  simp [c101, brV]
  refine Run.loopA (ι := Nat × Option (Nat × Nat)) [(1, 3)] (fun q => q.1 ≤ S.length ∧ okB S (l.drop a) q.2 ∧ ruleO (l.drop a) (S.drop q.1) q.1 q.2 = ruleO (l.drop a) S 0 none) (fun q => ⟨[(1, .v (.sl 2 (l.map unitV))), (2, .I a), (3, .ptr 1 0 0), (7, .I (bI q.2)), (8, .I q.1)], [(1, ⟨false, 2, [brV (R, S, u)]⟩)], 1024⟩) (fun q => S.length - q.1) (0, none) (by decide) (by simp [brV, bI]) ⟨by simp, okB_none S _, by simp⟩ ?_
  rintro ⟨i, best⟩ ⟨hi, hok, hall⟩ ih
  simp only at hi hok hall ih
  by_cases h : i < S.length
  · rw [drop_at h] at hall
    simp only [ruleO] at hall
    have hs := b4 _ (List.getElem_mem h)
    generalize hx : S[i] = r at hs hall
    obtain ⟨p, o, u2⟩ := r
    obtain ⟨p1, p2, p3, p4⟩ := hs
    simp only at p1 p2 p3 p4 hall
    simp (disch := omega) [h, wrap_i64, hx, shufV, wordsV, brV]
    refine Run.loopA (ι := Nat × Bool) [(1, 3)] (fun q => q.1 ≤ p.length ∧ (q.2 = true → a + p.length ≤ l.length) ∧ (q.2 && fitsF (p.drop q.1) ((l.drop a).drop q.1)) = fitsF p (l.drop a)) (fun q => ⟨[(1, .v (.sl 2 (l.map unitV))), (2, .I a), (3, .ptr 1 0 0), (7, .I (bI best)), (8, .I i), (9, .v (.sl 1 (p.map PV.word))), (10, .B q.2), (11, .I q.1)], [(1, ⟨false, 2, [brV (R, S, u)]⟩)], 1024⟩) (fun q => p.length - q.1) (0, decide (a + p.length ≤ l.length)) (by decide) (by simp [brV, bI]; omega) ⟨by simp, by simp, ?_⟩ ?_
    · by_cases q : a + p.length ≤ l.length
      · simp [q]
      · have : fitsF p (l.drop a) = false := by
          cases e : fitsF p (l.drop a)
          · rfl
          · have := fitsF_le e; simp at this; omega
        simp [q, this]
    rintro ⟨k2, x⟩ ⟨hk2, hxl, hfit⟩ ih2
    simp only at hk2 hxl hfit ih2
    by_cases g : x = true ∧ k2 < p.length
    · obtain ⟨rfl, g⟩ := g
      have gl : k2 < (l.drop a).length := by have := hxl rfl; simp; omega
      have gl2 : a + k2 < l.length := by simp at gl; omega
      rw [drop_at g, drop_at gl] at hfit
      simp only [fitsF] at hfit
      have e0 : (l.drop a)[k2] = l[a + k2] := by simp
      rw [e0] at hfit
      have hcall := fok104 l[a + k2] p[k2] (hu _ (List.getElem_mem gl2)) (p2 _ (List.getElem_mem g)).1
      have hxl2 := hxl rfl
      generalize hasU l[a + k2] p[k2] = y at hcall hfit
      generalize hz : l[a + k2] = z at hcall
      obtain ⟨zb, zt, zu⟩ := z
      simp at hcall
      have e1 : ((a : Int) + (k2 : Int)).toNat = a + k2 := by omega
      have e2 : (0 : Int) ≤ (a : Int) + (k2 : Int) := by omega
      simp (disch := omega) [g, gl2, hz, wrap_i64, unitV, e1, e2]
      refine CallG.lent rfl rfl rfl rfl hcall rfl ?_
      simp (disch := omega) [wrap_i64]
      exact ih2 (k2 + 1, y) _ ⟨by simp; omega, fun _ => hxl2, by simpa using hfit⟩ (by simp; omega) (by simp [brV, bI])
    · have hxf : x = fitsF p (l.drop a) := by
        cases x
        · simpa using hfit
        · rw [drop_no (fun q => g ⟨rfl, q⟩)] at hfit
          simpa [fitsF] using hfit
      have hgo : ∀ r, (if (fitsF p (l.drop a) && better best p.length) = true then ruleO (l.drop a) (S.drop (i + 1)) (i + 1) (some (i, p.length)) else ruleO (l.drop a) (S.drop (i + 1)) (i + 1) best) = r → r = ruleO (l.drop a) S 0 none := fun r e => by rw [← e]; exact hall
      rw [← hxf] at hall
      cases x
      · simp (disch := omega) [wrap_i64]
        exact ih (i + 1, best) _ ⟨by simp; omega, hok, by simpa using hall⟩ (by simp; omega) (by simp [brV, bI])
      · have g2 : ¬ k2 < p.length := fun q => g ⟨rfl, q⟩
        have hfl := fitsF_le hxf.symm
        have hsome : okB S (l.drop a) (some (i, p.length)) := fun k n e => by cases e; exact ⟨hfl, h, by rw [hx]⟩
        rcases best with _ | ⟨k, n⟩
        · simp (disch := omega) [g2, wrap_i64, bI]
          exact ih (i + 1, some (i, p.length)) _ ⟨by simp; omega, hsome, by simpa [better] using hall⟩ (by simp; omega) (by simp [brV, bI])
        · obtain ⟨hn, hk, hkn⟩ := hok k n rfl
          generalize hy : S[k] = y at hkn
          obtain ⟨py, oy, uy⟩ := y
          simp only at hkn
          have hk0 : ¬ (k : Int) < 0 := by omega
          by_cases c2 : n < p.length
          · have c2' : py.length < p.length := by omega
            simp (disch := omega) [g2, wrap_i64, bI, hk0, hk, hy, brV, shufV, wordsV, c2']
            exact ih (i + 1, some (i, p.length)) _ ⟨by simp; omega, hsome, by simpa [better, c2] using hall⟩ (by simp; omega) (by simp [brV, bI])
          · have c2' : ¬ py.length < p.length := by omega
            simp (disch := omega) [g2, wrap_i64, bI, hk0, hk, hy, brV, shufV, wordsV, c2']
            exact ih (i + 1, some (k, n)) _ ⟨by simp; omega, hok, by simpa [better, c2] using hall⟩ (by simp; omega) (by simp [brV, bI])
  · rw [drop_no h] at hall
    simp only [ruleO] at hall
    simp [h, brV]
    exact Ends.v rfl (by simp [hall])
theorem fok64 (b : BrT) (l : List UnitT) (hb : brS b) (hS : shB b.2.1) (hl : l.length ≤ 1000000000) (hu : ∀ u ∈ l, unitS u) : FOk Try.prog 64 [.v (brV b), .v (.sl 2 (l.map unitV))] [] (.v (.sl 3 ((chunksF b.2.1 l).map chV))) [] := by
  have hr := fun i (h : i ≤ l.length) => fok101 b l i hb (by omega) h hu
  obtain ⟨R, S, u⟩ := b
  simp only at hS
  obtain ⟨b1, b2, b3, b4⟩ := hb
  simp only at b1 b2 b3 b4
  refine FOk.val k64 (by simp) (by simp) (by decide) ?_
  simp [c64, brV]
  refine Run.loopA (ι := Nat × List ChT) [(1, 2), (2, 5)] (fun q => q.1 ≤ l.length ∧ q.2.length ≤ q.1 ∧ q.2 ++ chF S l (l.length - q.1) q.1 = chunksF S l) (fun q => ⟨[(1, .v (.sl 2 (l.map unitV))), (2, .ptr 1 0 0), (5, .h 2), (6, .I q.1)], [(2, ⟨false, 3, q.2.map chV⟩), (1, ⟨false, 2, [brV (R, S, u)]⟩)], 1024⟩) (fun q => l.length - q.1) (0, []) (by decide) (by simp [brV]) ⟨by simp, by simp, by simp [chunksF]⟩ ?_
  rintro ⟨i, acc⟩ ⟨hi, hac, hall⟩ ih
  simp only at hi hac hall ih
  by_cases h : i < l.length
  · obtain ⟨n, hn⟩ : ∃ n, l.length - i = n + 1 := ⟨l.length - i - 1, by omega⟩
    rw [hn] at hall
    simp only [chF] at hall
    rw [if_pos h] at hall
    have hok := ruleO_ok S (l.drop i) S 0 none rfl (okB_none S _)
    have hcall := hr i hi
    simp only [brV] at hcall
    generalize ruleO (l.drop i) S 0 none = r at hok hcall hall
    simp (disch := omega) [h, wrap_i64, hi, brV]
    refine CallG.lent rfl rfl rfl rfl hcall rfl ?_
    rcases r with _ | ⟨k, m⟩
    · simp (disch := omega) [wrap_i64, bI]
      exact ih (i + 1, acc) _ ⟨by simp; omega, by simp; omega, by simp only []; rw [chF_fuel S l hS _ n (i + 1) (by omega) (by omega)]; exact hall⟩ (by simp; omega) (by simp [brV])
    · obtain ⟨h1, hk, hm⟩ := hok k m rfl
      have hm0 := hS _ (List.getElem_mem hk)
      simp at h1
      have hk0 : ¬ (k : Int) < 0 := by omega
      have hb2 : (acc.length + 1 + 1000) * 24 ≤ 70368744177664 := by omega
      generalize hy : S[k] = y at hm hm0
      obtain ⟨py, oy, uy⟩ := y
      simp only at hm hm0
      subst hm
      simp (disch := omega) [wrap_i64, bI, hk0, hk, hy, shufV, wordsV, brV, hb2]
      exact ih (i + py.length, acc ++ [(k, i, i + py.length)]) _ ⟨by simp; omega, by simp; omega, by simp only []; rw [chF_fuel S l hS _ n (i + py.length) (by omega) (by omega), List.append_assoc]; exact hall⟩ (by simp; omega) (by simp [brV, chV])
  · have hi2 : i = l.length := by omega
    subst hi2
    rw [chF_end S l _ _ (Nat.le_refl _), List.append_nil] at hall
    simp
    exact Ends.v rfl (by simp [hall])

end Go.Proofs

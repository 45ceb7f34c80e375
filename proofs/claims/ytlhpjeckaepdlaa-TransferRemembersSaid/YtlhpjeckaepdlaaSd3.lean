/- The walk. -/
import Derived.Test.YtlhpjeckaepdlaaSd2
import Derived.Test.YtlhpjeckaepdlaaProg
import Derived.KernelRfl
set_option linter.all false
set_option maxHeartbeats 2000000
namespace Go.Proofs
open Go Go.AM
attribute [local irreducible] Run Ends
/-- ablaut/ablautref28.known -/
def c78 : MC :=
  .seq (.reg false [.op .none 4 (.mv (.c (.w (.int .i64 0))))]) <|
  .seq (.seq (.reg false [.op .none 9 (.mv (.t 0)),
    .op .none 10 (.len false (.t 9)),
    .op .none 11 (.bin .gtr (.t 10) (.c (.w (.int .i64 200))))]) <|
  .cond (.t 11)
    (.seq (.reg false [.op .none 4 (.mv (.c (.w (.int .i64 3))))]) <|
    .ret)
    (.skip)) <|
  .seq (.reg false [.op .none 12 (.mv (.t 1)),
    .op .none 13 (.buildS false 1 1 false [(.sl 1 [])] [(0, (.t 12))]),
    .op .none 5 (.mv (.t 13))]) <|
  .seq (.seq (.reg false [.op .none 6 (.mv (.c (.w (.int .i64 0))))]) <|
  .block 0 <|
    .loop <|
      .seq (.seq (.reg false [.op .none 14 (.mv (.t 6)),
        .op .none 15 (.mv (.t 0)),
        .op .none 16 (.len false (.t 15)),
        .op .none 17 (.bin .lss (.t 14) (.t 16))]) <|
      .cond (.t 17)
        (.skip)
        (.exit 0)) <|
      .seq (.block 1 <|
        .reg true [.op .none 20 (.mv (.t 5)),
          .op .none 21 (.mv (.t 0)),
          .op .none 22 (.mv (.t 6)),
          .op .none 23 (.ia 2 (.t 21) (.t 22)),
          .op .none 24 (.fa 0 (.t 23)),
          .op .none 25 (.ld false 1 (.t 24)),
          .op .none 26 (.mv (.t 0)),
          .op .none 27 (.mv (.t 6)),
          .op .none 28 (.ia 2 (.t 26) (.t 27)),
          .op .none 29 (.fa 1 (.t 28)),
          .op .none 30 (.ld false 1 (.t 29)),
          .op .none 31 (.buildS true 1 2 false [(.sl 1 [])] [(0, (.t 25)), (1, (.t 30))]),
          .op .none 32 (.app 1 24 (.t 20) (.t 31)),
          .op .none 5 (.mv (.t 32))]) <|
      .reg false [.op .none 18 (.mv (.t 6)),
        .op .none 19 (.bin .add (.t 18) (.c (.w (.int .i64 1)))),
        .op .none 6 (.mv (.t 19))]) <|
  .seq (.seq (.reg false [.op .none 7 (.mv (.c (.w (.int .i64 0))))]) <|
  .block 2 <|
    .loop <|
      .seq (.seq (.reg false [.op .none 33 (.mv (.t 7)),
        .op .none 34 (.mv (.t 5)),
        .op .none 35 (.len false (.t 34)),
        .op .none 36 (.bin .lss (.t 33) (.t 35))]) <|
      .cond (.t 36)
        (.skip)
        (.exit 2)) <|
      .seq (.block 3 <|
        .seq (.seq (.reg false [.op .none 39 (.mv (.t 5)),
          .op .none 40 (.mv (.t 7)),
          .op .none 41 (.ia 1 (.t 39) (.t 40)),
          .op .none 42 (.ld false 1 (.t 41)),
          .op .none 43 (.len false (.t 42)),
          .op .none 44 (.bin .gtr (.t 43) (.c (.w (.int .i64 20))))]) <|
        .cond (.t 44)
          (.seq (.reg false [.op .none 4 (.mv (.c (.w (.int .i64 3))))]) <|
          .ret)
          (.skip)) <|
        .seq (.reg false [.op .none 8 (.mv (.c (.w (.int .i64 0))))]) <|
        .block 4 <|
          .loop <|
            .seq (.seq (.reg false [.op .none 45 (.mv (.t 8)),
              .op .none 46 (.mv (.t 5)),
              .op .none 47 (.mv (.t 7)),
              .op .none 48 (.ia 1 (.t 46) (.t 47)),
              .op .none 49 (.ld false 1 (.t 48)),
              .op .none 50 (.len false (.t 49)),
              .op .none 51 (.bin .lss (.t 45) (.t 50))]) <|
            .cond (.t 51)
              (.skip)
              (.exit 4)) <|
            .seq (.block 5 <|
              .seq (.reg false [.op .none 54 (.mv (.t 5)),
                .op .none 55 (.mv (.t 7)),
                .op .none 56 (.ia 1 (.t 54) (.t 55)),
                .op .none 57 (.ld false 1 (.t 56)),
                .op .none 58 (.mv (.t 8)),
                .op .none 59 (.ia 1 (.t 57) (.t 58)),
                .op .none 60 (.ld false 1 (.t 59)),
                .op .none 61 (.len true (.t 60)),
                .op .none 62 (.bin .gtr (.t 61) (.c (.w (.int .i64 400))))]) <|
              .cond (.t 62)
                (.seq (.reg false [.op .none 4 (.mv (.c (.w (.int .i64 3))))]) <|
                .ret)
                (.skip)) <|
            .reg false [.op .none 52 (.mv (.t 8)),
              .op .none 53 (.bin .add (.t 52) (.c (.w (.int .i64 1)))),
              .op .none 8 (.mv (.t 53))]) <|
      .reg false [.op .none 37 (.mv (.t 7)),
        .op .none 38 (.bin .add (.t 37) (.c (.w (.int .i64 1)))),
        .op .none 7 (.mv (.t 38))]) <|
  .seq (.reg false [.op .none 4 (.mv (.c (.w (.int .i64 0))))]) <|
  .ret
theorem k78 : FnCode Try.prog 78 [31] 63 [4] c78 := ⟨Try.f78, Try.func78, fun xs W => Try.call78 xs W, by kernel_rfl, by kernel_rfl, by kernel_rfl⟩

def abF (l : List KnownT) : List (List Bs) := l.flatMap fun k => [k.1, k.2.1]
theorem badF_all (l : List KnownT) : (abF l).any badF = l.any kbF := by
  induction l with
  | nil => rfl
  | cons k l ih => simp only [abF, List.flatMap_cons, List.any_append, List.any_cons, List.any_nil] at ih ⊢; rw [ih]; simp [kbF, Bool.or_assoc]
theorem abF_len (l : List KnownT) : (abF l).length = 2 * l.length := by
  induction l with
  | nil => rfl
  | cons k l ih => simp only [abF, List.flatMap_cons, List.length_append, List.length_cons, List.length_nil] at ih ⊢; omega
theorem fok78 (l : List KnownT) (w : List Bs) (h : knS l w) : FOk Try.prog 78 [.v (.sl 2 (l.map knownV)), .v (.word w)] [] (.I (knF l w)) [] := by
  obtain ⟨hn, hw, hk⟩ := h
  refine FOk.val k78 (by simp) (by simp) (by decide) ?_
  have hkn : knF l w = if 200 < l.length then 3 else if (w :: abF l).any badF = true then 3 else 0 := by
    unfold knF
    rw [List.any_cons, badF_all]
    by_cases q : 200 < l.length
    · rw [if_pos q, if_pos q]
    · rw [if_neg q, if_neg q]
      cases badF w
      · rw [Bool.false_or]; rfl
      · rfl
  rw [hkn]
  generalize hres : (if 200 < l.length then (3 : Int) else if (w :: abF l).any badF = true then 3 else 0) = res
  simp [c78]
  by_cases q : 200 < l.length
  · rw [if_pos q] at hres
    subst hres
    have q' : ¬ l.length ≤ 200 := by omega
    simp [q, q']
    exact Ends.v rfl (by simp)
  rw [if_neg q] at hres
  have q' : l.length ≤ 200 := by omega
  simp [q, q']
  have habn : ∀ i, (abF (l.take i)).length = 2 * (l.take i).length := fun i => abF_len _
  have habs : ∀ i (h : i < l.length), abF (l.take (i + 1)) = abF (l.take i) ++ [l[i].1, l[i].2.1] := fun i h => by
    rw [List.take_succ_eq_append_getElem h]; unfold abF; rw [List.flatMap_append]; rfl
  have hab0 : abF ([] : List KnownT) = [] := rfl
  have habl : abF (l.take l.length) = abF l := by rw [List.take_length]
  have hsz : ∀ x ∈ w :: abF l, wordS x := by
    intro x hx
    rcases List.mem_cons.1 hx with rfl | hx
    · exact hw
    · simp only [abF, List.mem_flatMap] at hx
      obtain ⟨k, hk', hx⟩ := hx
      have := hk k hk'
      simp at hx
      rcases hx with rfl | rfl
      · exact this.1
      · exact this.2
  refine Run.loopA (ι := Nat) [(1, 5)] (fun i => i ≤ l.length) (fun i => ⟨[(0, .v (.sl 2 (l.map knownV))), (5, .h 1), (6, .I i)], [(1, ⟨false, 1, (w :: abF (l.take i)).map PV.word⟩)], 1024⟩) (fun i => l.length - i) 0 (by decide) (by simp [hab0]) (by simp) ?_
  rintro i hi ih
  by_cases h : i < l.length
  · have hab := habs i h
    have hlen := habn i
    generalize abF (l.take i) = T at hab hlen
    generalize hx : l[i] = k at hab
    obtain ⟨a, b, u⟩ := k
    have hbl : (T.length + 1 + 2 + 1000) * 24 ≤ 70368744177664 := by simp at hlen; omega
    simp (disch := (clear hbl; omega)) [h, hx, knownV, wrap_i64, hbl]
    clear hbl
    exact ih (i + 1) _ (by omega) (by omega) (by simp [hab])
  have hie : i = l.length := by omega
  subst hie
  rw [habl]
  have hlen := abF_len l
  generalize hAL : w :: abF l = AL at hsz hres
  have hALl : AL.length ≤ 401 := by rw [← hAL]; simp; omega
  simp [h]
  refine Run.loopA (ι := Nat) [(1, 5)] (fun i => i ≤ AL.length ∧ (if (AL.drop i).any badF = true then (3 : Int) else 0) = res) (fun i => ⟨[(5, .h 1), (7, .I i)], [(1, ⟨false, 1, AL.map PV.word⟩)], 1024⟩) (fun i => AL.length - i) 0 (by decide) (by simp [← hAL]) ⟨by simp, by simpa using hres⟩ ?_
  rintro i ⟨hi, hall⟩ ih2
  by_cases h : i < AL.length
  case neg =>
    rw [drop_no h] at hall
    simp at hall
    subst hall
    simp [h]
    exact Ends.v rfl (by simp)
  rw [drop_at h, List.any_cons] at hall
  have hx1 := hsz _ (List.getElem_mem h)
  generalize hx : AL[i] = x at hall hx1
  by_cases g : 20 < x.length
  · have hb : badF x = true := by simp [badF, g]
    rw [hb, Bool.true_or, if_pos rfl] at hall
    subst hall
    simp (disch := omega) [h, hx, g, wrap_i64, PV.word]
    exact Ends.v rfl (by simp)
  have hb : badF x = x.any lngS4 := by simp [badF, g]
  rw [hb] at hall
  simp (disch := omega) [h, hx, g, wrap_i64, PV.word]
  refine Run.loopA (ι := Nat) [(1, 5)] (fun k => k ≤ x.length ∧ (if ((x.drop k).any lngS4 || (AL.drop (i + 1)).any badF) = true then (3 : Int) else 0) = res) (fun k => ⟨[(5, .h 1), (7, .I i), (8, .I k)], [(1, ⟨false, 1, AL.map PV.word⟩)], 1024⟩) (fun k => x.length - k) 0 (by decide) (by simp [PV.word]) ⟨by simp, by simpa using hall⟩ ?_
  rintro k ⟨hk, hallk⟩ ihk
  by_cases hkx : k < x.length
  · rw [drop_at hkx, List.any_cons] at hallk
    by_cases g2 : 400 < x[k].length
    · have hb2 : lngS4 x[k] = true := by simp [lngS4, g2]
      rw [hb2, Bool.true_or, Bool.true_or, if_pos rfl] at hallk
      subst hallk
      simp (disch := omega) [h, hx, hkx, g2, wrap_i64, PV.word]
      exact Ends.v rfl (by simp)
    · have hb2 : lngS4 x[k] = false := by simp [lngS4]; omega
      rw [hb2, Bool.false_or] at hallk
      simp (disch := omega) [h, hx, hkx, g2, wrap_i64, PV.word]
      exact ihk (k + 1) _ ⟨by omega, hallk⟩ (by omega) (by simp [PV.word])
  · rw [drop_no hkx, List.any_nil, Bool.false_or] at hallk
    simp (disch := omega) [h, hx, hkx, wrap_i64, PV.word]
    exact ih2 (i + 1) _ ⟨by omega, hallk⟩ (by omega) (by simp [PV.word])

end Go.Proofs

/- The walk. -/
import Derived.Test.YtlhpjeckaepdlaaSd5
import Derived.Test.YtlhpjeckaepdlaaProg
import Derived.KernelRfl
set_option linter.all false
set_option maxHeartbeats 2000000
namespace Go.Proofs
open Go Go.AM
attribute [local irreducible] Run Ends
/-- ablaut/transfer.Memory -/
def c28 : MC :=
  .seq (.reg false [.op .none 6 (.nilS 2),
    .op .none 7 (.mv (.c (.w (.int .i64 0))))]) <|
  .seq (.seq (.reg false [.op .none 12 (.mv (.t 0)),
    .op .none 13 (.mv (.t 1)),
    .call .none 14 (.f 72) [(.t 12), (.t 13)],
    .op .none 8 (.mv (.t 14))]) <|
  .seq (.reg false [.op .none 15 (.mv (.t 8)),
    .op .none 16 (.bin .neq (.t 15) (.c (.w (.int .i64 0))))]) <|
  .cond (.t 16)
    (.seq (.reg false [.op .none 17 (.mv (.t 8)),
      .op .none 6 (.nilS 2),
      .op .none 7 (.mv (.t 17))]) <|
    .ret)
    (.skip)) <|
  .seq (.seq (.reg false [.op .none 18 (.mv (.t 2)),
    .op .none 19 (.bin .lss (.t 18) (.c (.w (.int .i64 1)))),
    .op .none 20 (.mv (.t 19)),
    .op (.some (20, false)) 21 (.mv (.t 2)),
    .op (.some (20, false)) 22 (.bin .gtr (.t 21) (.c (.w (.int .i64 200)))),
    .op .none 23 (.pick (.t 20) (.c (.w (.bool true))) (.t 22))]) <|
  .cond (.t 23)
    (.seq (.reg false [.op .none 6 (.nilS 2),
      .op .none 7 (.mv (.c (.w (.int .i64 1))))]) <|
    .ret)
    (.skip)) <|
  .seq (.reg false [.op .none 9 (.nilS 2)]) <|
  .seq (.seq (.reg false [.op .none 24 (.mv (.t 0)),
    .op .none 25 (.len false (.t 24)),
    .op .none 26 (.mv (.c (.w (.int .i64 0))))]) <|
  .block 0 <|
    .loop <|
      .seq (.reg false [.op .none 27 (.bin .lss (.t 26) (.t 25))]) <|
      .seq (.cond (.t 27)
        (.skip)
        (.exit 0)) <|
      .seq (.block 1 <|
        .seq (.reg false [.op .none 28 (.ia 2 (.t 24) (.t 26)),
          .op .none 29 (.ld true 2 (.t 28)),
          .op .none 11 (.alloc true [(.sl 1 []), (.sl 1 [])]),
          .store .none true 2 (.t 11) (.t 29)]) <|
        .reg true [.op .none 30 (.mv (.t 9)),
          .op .none 31 (.mv (.t 1)),
          .op .none 32 (.fa 0 (.t 11)),
          .op .none 33 (.ld false 1 (.t 32)),
          .call .none 34 (.f 73) [(.t 31), (.t 33)],
          .op .none 35 (.fa 1 (.t 11)),
          .op .none 36 (.ld false 1 (.t 35)),
          .call .none 37 (.f 74) [(.t 36)],
          .op .none 38 (.build true [(.w (.int .i64 0)), (.sl 1 [])] [(0, 1, (.t 34)), (1, 1, (.t 37))]),
          .op .none 39 (.buildS true 2 1 true [(.w (.int .i64 0)), (.sl 1 [])] [(0, (.t 38))]),
          .op .none 40 (.app 2 32 (.t 30) (.t 39)),
          .op .none 9 (.mv (.t 40))]) <|
      .reg false [.op .none 41 (.bin .add (.t 26) (.c (.w (.int .i64 1)))),
        .op .none 26 (.mv (.t 41))]) <|
  .seq (.reg false [.op .none 42 (.mv (.t 9)),
    .call .none 43 (.f 75) [(.t 42), (.f 76)]]) <|
  .seq (.reg false [.op .none 44 (.mv (.t 9)),
    .op .none 45 (.mv (.t 9)),
    .op .none 46 (.len false (.t 45)),
    .op .none 47 (.mv (.t 2)),
    .op .none 48 (.mm false (.t 46) (.t 47)),
    .op .none 49 (.slc false 2 (.t 44) .none (.some (.t 48))),
    .op .none 6 (.mv (.t 49)),
    .op .none 7 (.mv (.c (.w (.int .i64 0))))]) <|
  .ret
theorem k28 : FnCode Try.prog 28 [38, 39] 50 [6, 7] c28 := ⟨Try.f28, Try.func28, fun xs W => Try.call28 xs W, by kernel_rfl, by kernel_rfl, by kernel_rfl⟩

def memL (l : List KnownT) (w : List Bs) : List PaidT := l.map fun k => (edF w k.1, k.2.1, ())
def memF (l : List KnownT) (w : List Bs) (most : Int) : List PaidT × Int := if knF l w ≠ 0 then ([], knF l w) else if most < 1 ∨ 200 < most then ([], 1) else ((isrt cPd (memL l w)).take most.toNat, 0)
theorem knF_cases (l : List KnownT) (w : List Bs) : knF l w = 3 ∨ (knF l w = 0 ∧ l.length ≤ 200 ∧ w.length ≤ 20 ∧ ∀ k ∈ l, k.1.length ≤ 20 ∧ k.2.1.length ≤ 20) := by
  unfold knF
  split
  · exact .inl rfl
  · split
    · exact .inl rfl
    · split
      · exact .inl rfl
      · rename_i h1 h2 h3
        refine .inr ⟨rfl, by omega, ?_, fun k hk => ?_⟩
        · simp [badF] at h2
          omega
        · simp at h3
          have := h3 k.1 k.2.1 k.2.2 hk
          simp [kbF, badF] at this
          omega
theorem fok28 (l : List KnownT) (w : List Bs) (most : Int) (hs : knS l w) : FOk Try.prog 28 [.v (.sl 2 (l.map knownV)), .v (.word w), .I most] [] (.tup [.v (.sl 2 ((memF l w most).1.map paidV)), .I (memF l w most).2]) [] := by
  have r1 := fok72 l w hs
  have hc := knF_cases l w
  refine FOk.val k28 (by simp) (by simp) (by decide) ?_
  unfold memF
  generalize hres : (if knF l w ≠ 0 then (([] : List PaidT), knF l w) else if most < 1 ∨ 200 < most then ([], 1) else ((isrt cPd (memL l w)).take most.toNat, 0)) = res
  simp [c28]
  refine CallG.lent rfl rfl rfl rfl r1 rfl ?_
  rcases hc with hc | ⟨hc, hl, hw, hk⟩
  · rw [if_pos (by omega)] at hres
    subst hres
    simp [hc]
    exact Ends.v rfl (by simp [hc])
  rw [if_neg (by omega)] at hres
  simp [hc]
  by_cases h1 : most < 1
  · rw [if_pos (.inl h1)] at hres
    subst hres
    have h1' : ¬ 1 ≤ most := by omega
    simp [h1, h1']
    exact Ends.v rfl (by simp)
  have h1' : 1 ≤ most := by omega
  by_cases h2 : 200 < most
  · rw [if_pos (.inr h2)] at hres
    subst hres
    have h2' : ¬ most ≤ 200 := by omega
    simp [h1, h1', h2, h2']
    exact Ends.v rfl (by simp)
  have h2' : most ≤ 200 := by omega
  rw [if_neg (by omega)] at hres
  subst hres
  simp [h1, h1', h2, h2']
  refine Run.loopA (ι := Nat) [(1, 9)] (fun i => i ≤ l.length) (fun i => ⟨[(1, .v (.word w)), (2, .I most), (9, .h 1), (24, .v (.sl 2 (l.map knownV))), (25, .I l.length), (26, .I i)], [(1, ⟨false, 2, (memL (l.take i) w).map paidV⟩)], 1024⟩) (fun i => l.length - i) 0 (by decide) (by simp [memL]) (by simp) ?_
  rintro i hi ih
  by_cases h : i < l.length
  · rcases hli : l[i] with ⟨ka, kb, ku⟩
    have hm : l[i] ∈ l := List.getElem_mem h
    rw [hli] at hm
    have hb := hk _ hm
    simp only at hb
    have r2 := fok73 w ka hw hb.1
    have r3 := fok74 kb (by omega)
    simp (disch := omega) [h, wrap_i64, hli, knownV]
    refine CallG.lent rfl rfl rfl rfl r2 rfl ?_
    simp
    refine CallG.plain rfl rfl rfl rfl r3 (by simp) (by simp) ?_
    have hml : (memL (l.take i) w).length = i := by simp [memL]; omega
    have hmb : ((memL (l.take i) w).length + 1 + 1000) * 32 ≤ 70368744177664 := by omega
    simp (disch := (clear hmb; omega)) [wrap_i64, hmb]
    clear hmb
    have e : memL (l.take (i + 1)) w = memL (l.take i) w ++ [(edF w ka, kb, ())] := by
      simp [memL, List.take_succ, h, hli]
    refine ih (i + 1) _ (by omega) (by omega) (by simp [e, paidV])
  have hil : i = l.length := by omega
  subst hil
  rw [List.take_length]
  clear ih
  have hml : (memL l w).length = l.length := by simp [memL]
  have r4 := fok75 (memL l w) (by omega)
  simp (disch := omega) [wrap_i64]
  refine CallG.rows [1] rfl rfl rfl rfl (by simp) (by simp) r4 (by simp) (by simp) ?_
  have hml2 : (isrt cPd (memL l w)).length = l.length := by rw [isrt_len, hml]
  by_cases h5 : most < l.length
  · have h6 : ¬ (l.length : Int) ≤ most := by omega
    have h7 : 0 ≤ most := by omega
    have h8 : most ≤ l.length := by omega
    simp (disch := omega) [wrap_i64, hml2, h5, h6, h7, h8]
    exact Ends.v rfl (by simp)
  have h6 : (l.length : Int) ≤ most := by omega
  have h7 : (isrt cPd (memL l w)).take most.toNat = isrt cPd (memL l w) := List.take_of_length_le (by omega)
  have h8 : ((isrt cPd (memL l w)).map paidV).take l.length = (isrt cPd (memL l w)).map paidV := List.take_of_length_le (by simp; omega)
  simp (disch := omega) [wrap_i64, hml2, h5, h6, h7]
  have h9 : ((isrt cPd (memL l w)).map paidV).take most.toNat = (isrt cPd (memL l w)).map paidV := List.take_of_length_le (by simp; omega)
  exact Ends.v rfl (by simp [h9, h8])

end Go.Proofs

/- The walk. -/
import Derived.Test.YtlhpjeckaepdlaaTs3
import Derived.Test.YtlhpjeckaepdlaaProg
import Derived.KernelRfl
set_option linter.all false
set_option maxHeartbeats 2000000
namespace Go.Proofs
open Go Go.AM
attribute [local irreducible] Run Ends
/-- ablaut/transfer.Chunks -/
def c17 : MC :=
  .seq (.reg false [.op .none 2 (.box false (.t 0)),
    .op .none 4 (.nilS 3),
    .op .none 5 (.mv (.c (.w (.int .i64 0))))]) <|
  .seq (.seq (.reg false [.op .none 7 (.ld true 2 (.t 2)),
    .op .none 8 (.mv (.t 1)),
    .call .none 9 (.f 57) [(.t 7), (.t 8)],
    .op .none 6 (.mv (.t 9))]) <|
  .seq (.reg false [.op .none 10 (.mv (.t 6)),
    .op .none 11 (.bin .neq (.t 10) (.c (.w (.int .i64 0))))]) <|
  .cond (.t 11)
    (.seq (.reg false [.op .none 12 (.mv (.t 6)),
      .op .none 4 (.nilS 3),
      .op .none 5 (.mv (.t 12))]) <|
    .ret)
    (.skip)) <|
  .seq (.reg false [.op .none 13 (.ld true 2 (.t 2)),
    .op .none 14 (.mv (.t 1)),
    .call .none 15 (.f 60) [(.t 13), (.t 14)],
    .op .none 4 (.mv (.t 15)),
    .op .none 5 (.mv (.c (.w (.int .i64 0))))]) <|
  .ret
theorem k17 : FnCode Try.prog 17 [] 16 [4, 5] c17 := ⟨Try.f17, Try.func17, fun xs W => Try.call17 xs W, by kernel_rfl, by kernel_rfl, by kernel_rfl⟩

/-- ablaut/transfer.Unknown -/
def c19 : MC :=
  .seq (.reg false [.op .none 2 (.box false (.t 0)),
    .op .none 4 (.nilS 1),
    .op .none 5 (.mv (.c (.w (.int .i64 0))))]) <|
  .seq (.seq (.reg false [.op .none 10 (.ld true 2 (.t 2)),
    .op .none 11 (.mv (.t 1)),
    .call .none 12 (.f 57) [(.t 10), (.t 11)],
    .op .none 6 (.mv (.t 12))]) <|
  .seq (.reg false [.op .none 13 (.mv (.t 6)),
    .op .none 14 (.bin .neq (.t 13) (.c (.w (.int .i64 0))))]) <|
  .cond (.t 14)
    (.seq (.reg false [.op .none 15 (.mv (.t 6)),
      .op .none 4 (.nilS 1),
      .op .none 5 (.mv (.t 15))]) <|
    .ret)
    (.skip)) <|
  .seq (.reg false [.op .none 7 (.nilS 1)]) <|
  .seq (.seq (.reg false [.op .none 16 (.mv (.t 1)),
    .op .none 17 (.len false (.t 16)),
    .op .none 18 (.mv (.c (.w (.int .i64 0))))]) <|
  .block 0 <|
    .loop <|
      .seq (.reg false [.op .none 19 (.bin .lss (.t 18) (.t 17))]) <|
      .seq (.cond (.t 19)
        (.skip)
        (.exit 0)) <|
      .seq (.block 1 <|
        .seq (.reg false [.op .none 20 (.mv (.t 18)),
          .op .none 21 (.ia 2 (.t 16) (.t 18)),
          .op .none 22 (.ld true 2 (.t 21)),
          .op .none 9 (.alloc true [(.w (.string ⟨#[]⟩)), (.sl 1 [])]),
          .op .none 8 (.mv (.t 20)),
          .store .none true 2 (.t 9) (.t 22)]) <|
        .seq (.reg false [.op .none 23 (.ld true 2 (.t 2)),
          .op .none 24 (.ld true 2 (.t 9)),
          .call .none 25 (.f 66) [(.t 23), (.t 24)],
          .op .none 26 (.bin .lss (.t 25) (.c (.w (.int .i64 0))))]) <|
        .cond (.t 26)
          (.reg false [.op .none 27 (.mv (.t 7)),
            .op .none 28 (.mv (.t 8)),
            .op .none 29 (.buildS false 1 1 false [(.w (.int .i64 0))] [(0, (.t 28))]),
            .op .none 30 (.app 1 8 (.t 27) (.t 29)),
            .op .none 7 (.mv (.t 30))])
          (.skip)) <|
      .reg false [.op .none 31 (.bin .add (.t 18) (.c (.w (.int .i64 1)))),
        .op .none 18 (.mv (.t 31))]) <|
  .seq (.reg false [.op .none 32 (.mv (.t 7)),
    .op .none 4 (.mv (.t 32)),
    .op .none 5 (.mv (.c (.w (.int .i64 0))))]) <|
  .ret
theorem k19 : FnCode Try.prog 19 [] 33 [4, 5] c19 := ⟨Try.f19, Try.func19, fun xs W => Try.call19 xs W, by kernel_rfl, by kernel_rfl, by kernel_rfl⟩

abbrev ChT : Type := Nat × Nat × Nat
def chV (c : ChT) : PV := .st [.i c.1, .i c.2.1, .i c.2.2]
def chF (S : List ShufT) (l : List UnitT) : Nat → Nat → List ChT
  | 0, _ => []
  | n + 1, at_ => if at_ < l.length then match ruleO (l.drop at_) S 0 none with
      | none => chF S l n (at_ + 1)
      | some (k, m) => (k, at_, at_ + m) :: chF S l n (at_ + m)
    else []
def shB (S : List ShufT) : Prop := ∀ r ∈ S, r.1.length ≠ 0
theorem chF_end (S : List ShufT) (l : List UnitT) : ∀ (n at_ : Nat), l.length ≤ at_ → chF S l n at_ = []
  | 0, _, _ => rfl
  | n + 1, a, h => by simp only [chF]; rw [if_neg (by omega)]
theorem chF_fuel (S : List ShufT) (l : List UnitT) (hS : shB S) : ∀ (n n' at_ : Nat), l.length ≤ at_ + n → l.length ≤ at_ + n' → chF S l n at_ = chF S l n' at_
  | 0, n', a, h, _ => by rw [chF_end S l n' a (by omega)]; rfl
  | n + 1, 0, a, _, h => by rw [chF_end S l (n + 1) a (by omega)]; rfl
  | n + 1, n' + 1, a, h, h' => by
    simp only [chF]
    split
    · have hok := ruleO_ok S (l.drop a) S 0 none rfl (okB_none S _)
      generalize ruleO (l.drop a) S 0 none = r at hok
      rcases r with _ | ⟨k, m⟩
      · exact chF_fuel S l hS n n' (a + 1) (by omega) (by omega)
      · obtain ⟨_, hk, hm⟩ := hok k m rfl
        have := hS _ (List.getElem_mem hk)
        simp only []
        rw [chF_fuel S l hS n n' (a + m) (by omega) (by omega)]
    · rfl
/-- The chunks come one behind the other, from a place on. -/
def okCh (S : List ShufT) (N : Nat) : Nat → List ChT → Prop
  | a, [] => a ≤ N
  | a, c :: cs => a ≤ c.2.1 ∧ c.2.1 < c.2.2 ∧ c.2.2 ≤ N ∧ (∃ h : c.1 < S.length, S[c.1].1.length = c.2.2 - c.2.1) ∧ okCh S N c.2.2 cs
theorem okCh_up {S : List ShufT} {N : Nat} : ∀ {cs : List ChT} {a a' : Nat}, a ≤ a' → okCh S N a' cs → okCh S N a cs
  | [], _, _, h, h' => by simp only [okCh] at *; omega
  | c :: cs, _, _, h, h' => by simp only [okCh] at *; exact ⟨by omega, h'.2⟩
theorem chF_ok (S : List ShufT) (l : List UnitT) (hS : shB S) : ∀ (n at_ : Nat), at_ ≤ l.length → okCh S l.length at_ (chF S l n at_)
  | 0, a, h => h
  | n + 1, a, h => by
    simp only [chF]
    split
    · have hok := ruleO_ok S (l.drop a) S 0 none rfl (okB_none S _)
      generalize ruleO (l.drop a) S 0 none = r at hok
      rcases r with _ | ⟨k, m⟩
      · exact okCh_up (by omega) (chF_ok S l hS n (a + 1) (by omega))
      · obtain ⟨h1, hk, hm⟩ := hok k m rfl
        have := hS _ (List.getElem_mem hk)
        simp at h1
        exact ⟨Nat.le_refl _, by simp only []; omega, by simp only []; omega, ⟨hk, by simp only []; omega⟩, chF_ok S l hS n (a + m) (by omega)⟩
    · exact h
def chunksF (S : List ShufT) (l : List UnitT) : List ChT := chF S l l.length 0
theorem fok60 (b : BrT) (l : List UnitT) (hb : brS b) (hS : shB b.2.1) (hl : l.length ≤ 1000000000) (hu : ∀ u ∈ l, unitS u) : FOk Try.prog 60 [.v (brV b), .v (.sl 2 (l.map unitV))] [] (.v (.sl 3 ((chunksF b.2.1 l).map chV))) [] := by
  have hr := fun i => fok96 b (l.drop i) hb (by simp; omega) (fun u h => hu u (List.mem_of_mem_drop h))
  obtain ⟨R, S, u⟩ := b
  simp only at hS
  obtain ⟨b1, b2, b3, b4⟩ := hb
  simp only at b1 b2 b3 b4
  refine FOk.val k60 (by simp) (by simp) (by decide) ?_
  simp [c60, brV]
  refine Run.loopA (ι := Nat × List ChT) [(1, 2), (2, 5)] (fun q => q.1 ≤ l.length ∧ q.2.length ≤ q.1 ∧ q.2 ++ chF S l (l.length - q.1) q.1 = chunksF S l) (fun q => ⟨[(1, .v (.sl 2 (l.map unitV))), (2, .ptr 1 0 0), (5, .h 2), (6, .I q.1)], [(2, ⟨false, 3, q.2.map chV⟩), (1, ⟨false, 2, [brV (R, S, u)]⟩)], 1024⟩) (fun q => l.length - q.1) (0, []) (by decide) (by simp [brV]) ⟨by simp, by simp, by simp [chunksF]⟩ ?_
  rintro ⟨i, acc⟩ ⟨hi, hac, hall⟩ ih
  simp only at hi hac hall ih
  by_cases h : i < l.length
  · obtain ⟨n, hn⟩ : ∃ n, l.length - i = n + 1 := ⟨l.length - i - 1, by omega⟩
    rw [hn] at hall
    simp only [chF] at hall
    rw [if_pos h] at hall
    have hok := ruleO_ok S (l.drop i) S 0 none rfl (okB_none S _)
    have hcall := hr i
    simp only [brV] at hcall
    generalize ruleO (l.drop i) S 0 none = r at hok hcall hall
    simp at hcall
    have ht : List.take l.length (l.map unitV) = l.map unitV := List.take_of_length_le (by simp)
    simp (disch := omega) [h, wrap_i64, hi, brV, ht]
    refine CallG.lent rfl rfl rfl rfl hcall rfl ?_
    rcases r with _ | ⟨k, m⟩
    · simp (disch := omega) [wrap_i64, bI]
      exact ih (i + 1, acc) _ ⟨by simp; omega, by simp; omega, by simp only []; rw [chF_fuel S l hS _ n (i + 1) (by omega) (by omega)]; exact hall⟩ (by simp; omega) (by simp [brV])
    · obtain ⟨h1, hk, hm⟩ := hok k m rfl
      have hm0 := hS _ (List.getElem_mem hk)
      simp at h1
      have hk0 : ¬ (k : Int) < 0 := by omega
      have hb2 : (acc.length + 1 + 1000) * 24 ≤ 70368744177664 := by omega
      generalize hy : S[k] = y at hm hm0
      obtain ⟨py, oy, uy⟩ := y
      simp only at hm hm0
      subst hm
      simp (disch := omega) [wrap_i64, bI, hk0, hk, hy, shufV, wordsV, brV, hb2]
      exact ih (i + py.length, acc ++ [(k, i, i + py.length)]) _ ⟨by simp; omega, by simp; omega, by simp only []; rw [chF_fuel S l hS _ n (i + py.length) (by omega) (by omega), List.append_assoc]; exact hall⟩ (by simp; omega) (by simp [brV, chV])
  · have hi2 : i = l.length := by omega
    subst hi2
    rw [chF_end S l _ _ (Nat.le_refl _), List.append_nil] at hall
    simp
    exact Ends.v rfl (by simp [hall])

end Go.Proofs

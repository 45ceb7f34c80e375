/- The walk. -/
import Derived.Test.YtphjjlhpepmofaaRe6
import Derived.Test.YtphjjlhpepmofaaF7
import Derived.Test.YtphjjlhpepmofaaProg
import Derived.KernelRfl
set_option linter.all false
set_option maxHeartbeats 2000000
namespace Go.Proofs
open Go Go.AM
attribute [local irreducible] Run Ends
/-- ablaut/ablautref21.SameInts -/
def c29 : MC :=
  .seq (.reg false [.op .none 4 (.mv (.c (.w (.bool false))))]) <|
  .seq (.seq (.reg false [.op .none 6 (.mv (.t 0)),
    .op .none 7 (.len false (.t 6)),
    .op .none 8 (.mv (.t 1)),
    .op .none 9 (.len false (.t 8)),
    .op .none 10 (.bin .neq (.t 7) (.t 9))]) <|
  .cond (.t 10)
    (.seq (.reg false [.op .none 4 (.mv (.c (.w (.bool false))))]) <|
    .ret)
    (.skip)) <|
  .seq (.seq (.reg false [.op .none 5 (.mv (.c (.w (.int .i64 0))))]) <|
  .block 0 <|
    .loop <|
      .seq (.seq (.reg false [.op .none 11 (.mv (.t 5)),
        .op .none 12 (.mv (.t 0)),
        .op .none 13 (.len false (.t 12)),
        .op .none 14 (.bin .lss (.t 11) (.t 13))]) <|
      .cond (.t 14)
        (.skip)
        (.exit 0)) <|
      .seq (.block 1 <|
        .seq (.reg true [.op .none 17 (.mv (.t 0)),
          .op .none 18 (.mv (.t 5)),
          .op .none 19 (.ia 1 (.t 17) (.t 18)),
          .op .none 20 (.ld false 1 (.t 19)),
          .op .none 21 (.mv (.t 1)),
          .op .none 22 (.mv (.t 5)),
          .op .none 23 (.ia 1 (.t 21) (.t 22)),
          .op .none 24 (.ld false 1 (.t 23)),
          .op .none 25 (.bin .neq (.t 20) (.t 24))]) <|
        .cond (.t 25)
          (.seq (.reg false [.op .none 4 (.mv (.c (.w (.bool false))))]) <|
          .ret)
          (.skip)) <|
      .reg false [.op .none 15 (.mv (.t 5)),
        .op .none 16 (.bin .add (.t 15) (.c (.w (.int .i64 1)))),
        .op .none 5 (.mv (.t 16))]) <|
  .seq (.reg false [.op .none 4 (.mv (.c (.w (.bool true))))]) <|
  .ret
theorem k29 : FnCode Try.prog 29 [] 26 [4] c29 := ⟨Try.f29, Try.func29, fun xs W => Try.call29 xs W, by kernel_rfl, by kernel_rfl, by kernel_rfl⟩

/-- ablaut/ablautlaw23.SpellReals -/
def c8 : MC :=
  .seq (.reg false [.op .none 1 (.box false (.t 0)),
    .op .none 2 (.mv (.c (.w (.bool false))))]) <|
  .seq (.reg false [.op .none 10 (.fa 0 (.t 1)),
    .op .none 11 (.ld false 1 (.t 10)),
    .op .none 12 (.len false (.t 11)),
    .op .none 13 (.fa 1 (.t 1)),
    .op .none 14 (.ld false 1 (.t 13)),
    .op .none 15 (.len false (.t 14)),
    .op .none 16 (.bin .add (.t 12) (.t 15)),
    .op .none 17 (.fa 2 (.t 1)),
    .op .none 18 (.ld false 1 (.t 17)),
    .op .none 19 (.len false (.t 18)),
    .op .none 20 (.bin .add (.t 16) (.t 19)),
    .op .none 3 (.mv (.t 20))]) <|
  .seq (.seq (.reg false [.op .none 4 (.mv (.c (.w (.int .i64 0))))]) <|
  .block 0 <|
    .loop <|
      .seq (.seq (.reg false [.op .none 21 (.mv (.t 4)),
        .op .none 22 (.fa 0 (.t 1)),
        .op .none 23 (.ld false 1 (.t 22)),
        .op .none 24 (.len false (.t 23)),
        .op .none 25 (.bin .lss (.t 21) (.t 24)),
        .op .none 26 (.mv (.t 25)),
        .op (.some (26, true)) 27 (.mv (.t 3)),
        .op (.some (26, true)) 28 (.bin .leq (.t 27) (.c (.w (.int .i64 100000)))),
        .op .none 29 (.pick (.t 26) (.t 28) (.c (.w (.bool false))))]) <|
      .cond (.t 29)
        (.skip)
        (.exit 0)) <|
      .seq (.block 1 <|
        .reg false [.op .none 32 (.mv (.t 3)),
          .op .none 33 (.fa 0 (.t 1)),
          .op .none 34 (.ld false 1 (.t 33)),
          .op .none 35 (.mv (.t 4)),
          .op .none 36 (.ia 1 (.t 34) (.t 35)),
          .op .none 37 (.ld false 1 (.t 36)),
          .call .none 38 (.f 12) [(.t 37)],
          .op .none 39 (.bin .add (.t 32) (.t 38)),
          .op .none 3 (.mv (.t 39))]) <|
      .reg false [.op .none 30 (.mv (.t 4)),
        .op .none 31 (.bin .add (.t 30) (.c (.w (.int .i64 1)))),
        .op .none 4 (.mv (.t 31))]) <|
  .seq (.seq (.reg false [.op .none 5 (.mv (.c (.w (.int .i64 0))))]) <|
  .block 2 <|
    .loop <|
      .seq (.seq (.reg false [.op .none 40 (.mv (.t 5)),
        .op .none 41 (.fa 1 (.t 1)),
        .op .none 42 (.ld false 1 (.t 41)),
        .op .none 43 (.len false (.t 42)),
        .op .none 44 (.bin .lss (.t 40) (.t 43)),
        .op .none 45 (.mv (.t 44)),
        .op (.some (45, true)) 46 (.mv (.t 3)),
        .op (.some (45, true)) 47 (.bin .leq (.t 46) (.c (.w (.int .i64 100000)))),
        .op .none 48 (.pick (.t 45) (.t 47) (.c (.w (.bool false))))]) <|
      .cond (.t 48)
        (.skip)
        (.exit 2)) <|
      .seq (.block 3 <|
        .reg true [.op .none 51 (.mv (.t 3)),
          .op .none 52 (.fa 1 (.t 1)),
          .op .none 53 (.ld false 1 (.t 52)),
          .op .none 54 (.mv (.t 5)),
          .op .none 55 (.ia 4 (.t 53) (.t 54)),
          .op .none 56 (.fa 0 (.t 55)),
          .op .none 57 (.ld false 1 (.t 56)),
          .op .none 58 (.fa 1 (.t 1)),
          .op .none 59 (.ld false 1 (.t 58)),
          .op .none 60 (.mv (.t 5)),
          .op .none 61 (.ia 4 (.t 59) (.t 60)),
          .op .none 62 (.fa 1 (.t 61)),
          .op .none 63 (.ld false 1 (.t 62)),
          .op .none 64 (.fa 1 (.t 1)),
          .op .none 65 (.ld false 1 (.t 64)),
          .op .none 66 (.mv (.t 5)),
          .op .none 67 (.ia 4 (.t 65) (.t 66)),
          .op .none 68 (.fa 2 (.t 67)),
          .op .none 69 (.ld false 1 (.t 68)),
          .op .none 70 (.buildS false 1 3 false [(.sl 1 [])] [(0, (.t 57)), (1, (.t 63)), (2, (.t 69))]),
          .call .none 71 (.f 12) [(.t 70)],
          .op .none 72 (.bin .add (.t 51) (.t 71)),
          .op .none 3 (.mv (.t 72))]) <|
      .reg false [.op .none 49 (.mv (.t 5)),
        .op .none 50 (.bin .add (.t 49) (.c (.w (.int .i64 1)))),
        .op .none 5 (.mv (.t 50))]) <|
  .seq (.seq (.reg false [.op .none 73 (.mv (.t 3)),
    .op .none 74 (.bin .gtr (.t 73) (.c (.w (.int .i64 100000)))),
    .op .none 75 (.mv (.t 74)),
    .op (.some (75, false)) 76 (.fa 2 (.t 1)),
    .op (.some (75, false)) 77 (.ld false 1 (.t 76)),
    .call (.some (75, false)) 78 (.f 12) [(.t 77)],
    .op (.some (75, false)) 79 (.bin .gtr (.t 78) (.c (.w (.int .i64 100000)))),
    .op .none 80 (.pick (.t 75) (.c (.w (.bool true))) (.t 79))]) <|
  .cond (.t 80)
    (.seq (.reg false [.call .none 81 (.f 13) [],
      .op .none 2 (.mv (.t 81))]) <|
    .ret)
    (.skip)) <|
  .seq (.reg false [.op .none 83 (.fa 0 (.t 1)),
    .op .none 84 (.ld false 1 (.t 83)),
    .op .none 85 (.fa 1 (.t 1)),
    .op .none 86 (.ld false 1 (.t 85)),
    .op .none 87 (.fa 2 (.t 1)),
    .op .none 88 (.ld false 1 (.t 87)),
    .call .none 89 (.f 27) [(.t 84), (.t 86), (.t 88)],
    .op .none 82 (.mv (.t 89)),
    .op .none 90 (.ext (.t 82) 0),
    .op .none 91 (.ext (.t 82) 1),
    .op .none 6 (.mv (.t 90)),
    .op .none 7 (.mv (.t 91))]) <|
  .seq (.reg false [.op .none 93 (.fa 0 (.t 1)),
    .op .none 94 (.ld false 1 (.t 93)),
    .op .none 95 (.fa 1 (.t 1)),
    .op .none 96 (.ld false 1 (.t 95)),
    .op .none 97 (.fa 2 (.t 1)),
    .op .none 98 (.ld false 1 (.t 97)),
    .call .none 99 (.f 28) [(.t 94), (.t 96), (.t 98)],
    .op .none 92 (.mv (.t 99)),
    .op .none 100 (.ext (.t 92) 0),
    .op .none 101 (.ext (.t 92) 1),
    .op .none 8 (.mv (.t 100)),
    .op .none 9 (.mv (.t 101))]) <|
  .seq (.reg false [.op .none 102 (.mv (.t 6)),
    .op .none 103 (.mv (.t 8)),
    .call .none 104 (.f 29) [(.t 102), (.t 103)],
    .op .none 105 (.mv (.t 104)),
    .op (.some (105, true)) 106 (.mv (.t 7)),
    .op (.some (105, true)) 107 (.mv (.t 9)),
    .op (.some (105, true)) 108 (.bin .eql (.t 106) (.t 107)),
    .op .none 109 (.pick (.t 105) (.t 108) (.c (.w (.bool false)))),
    .op .none 110 (.mv (.t 109)),
    .call (.some (110, true)) 111 (.f 13) [],
    .op .none 112 (.pick (.t 110) (.t 111) (.c (.w (.bool false)))),
    .op .none 2 (.mv (.t 112))]) <|
  .ret
theorem k8 : FnCode Try.prog 8 [] 113 [2] c8 := ⟨Try.f8, Try.func8, fun xs W => Try.call8 xs W, by kernel_rfl, by kernel_rfl, by kernel_rfl⟩

theorem fok29 (a b : List Nat) (ha : a.length ≤ 1000000) : FOk Try.prog 29 [.v (natV a), .v (natV b)] [] (.B (decide (a = b))) [] := by
  refine FOk.val k29 (by simp) (by simp) (by decide) ?_
  by_cases h0 : a.length = b.length
  · simp [c29, natV, h0]
    refine Run.loopA (ι := Nat) [] (fun i => i ≤ a.length ∧ a.take i = b.take i) (fun i => ⟨[(0, .v (natV a)), (1, .v (natV b)), (5, .I i)], [], 1024⟩) (fun i => a.length - i) 0 (by decide) (by simp [natV]) (by simp) ?_
    rintro i ⟨hi, he⟩ ih
    by_cases h : i < a.length
    · have h' : i < b.length := by omega
      by_cases hv : a[i] = b[i]
      · simp (disch := omega) [h, h', wrap_i64, natV, hv]
        exact ih (i + 1) _ ⟨by omega, by rw [List.take_succ_eq_append_getElem h, List.take_succ_eq_append_getElem h', he, hv]⟩ (by omega) (by simp [natV])
      · have hne : a ≠ b := by rintro rfl; exact hv rfl
        have hv' : ¬ (a[i] : Int) = (b[i] : Int) := by omega
        simp (disch := omega) [h, h', wrap_i64, natV, hv']
        exact Ends.v rfl (by simp [hne])
    · have e : a = b := by rw [List.take_of_length_le (by omega), List.take_of_length_le (by omega)] at he; exact he
      simp [h, natV]
      exact Ends.v rfl (by simp [e])
  · have hne : a ≠ b := by rintro rfl; exact h0 rfl
    have h0' : ¬ (a.length : Int) = (b.length : Int) := by omega
    simp [c29, natV, h0']
    exact Ends.v rfl (by simp [hne])

def seenC (s : SeenT) : Prop := wordC s.1 ∧ wordC s.2.1 ∧ wordC s.2.2.1 ∧ intC s.2.2.2.1 ∧ True
def wordsC (l : List (List Bs)) : Prop := l.length * 24 ≤ 140737488351232 ∧ ∀ w ∈ l, wordC w
abbrev MixT : Type := List (List (List Bs)) × List SeenT × List (List Bs) × Unit
def mixV (m : MixT) : PV := .st [.sl 1 (m.1.map PV.words), .sl 4 (m.2.1.map seenV), .words m.2.2.1]
def mixC (m : MixT) : Prop := (m.1.length * 24 ≤ 140737488351232 ∧ ∀ s ∈ m.1, wordsC s) ∧ (m.2.1.length * 80 ≤ 140737488351232 ∧ ∀ s ∈ m.2.1, seenC s) ∧ wordsC m.2.2.1 ∧ True
theorem byt1_le : ∀ (w : List Bs) (n : Nat), (∀ s ∈ w, s.length ≤ 140737488351232) → n ≤ 9000000000000 → byt1 w n ≤ 160000000000000
  | [], n, _, h => by simp only [byt1]; omega
  | s :: w, n, hs, h => by
    simp only [byt1]
    split
    · have h1 := hs s (by simp)
      by_cases h2 : n + s.length ≤ 100000
      · exact byt1_le w _ (fun t ht => hs t (by simp [ht])) (by omega)
      · cases w with
        | nil => simp only [byt1]; omega
        | cons t w => simp only [byt1]; rw [if_neg h2]; omega
    · omega
theorem byt_le : ∀ (l : List (List Bs)) (n : Nat), (∀ w ∈ l, wordC w) → n ≤ 160000000000000 → byt l n ≤ 160000000000000
  | [], n, _, h => by simp only [byt]; omega
  | w :: l, n, hs, h => by
    simp only [byt]
    split
    · have h1 := hs w (by simp)
      exact byt_le l _ (fun t ht => hs t (by simp [ht])) (byt1_le w _ h1.2 (by have := h1.1; omega))
    · omega
theorem byt1_ge : ∀ (w : List Bs) (n : Nat), n ≤ byt1 w n
  | [], n => Nat.le_refl _
  | s :: w, n => by
    simp only [byt1]
    split
    · have := byt1_ge w (n + s.length); omega
    · omega
theorem byt_ge : ∀ (l : List (List Bs)) (n : Nat), n ≤ byt l n
  | [], n => Nat.le_refl _
  | w :: l, n => by
    simp only [byt]
    split
    · have h1 := byt_ge l (byt1 w (n + (1 + w.length))); have h2 := byt1_ge w (n + (1 + w.length)); omega
    · omega
theorem byt_len : ∀ (l : List (List Bs)) (n : Nat), byt l n ≤ 100000 → n + l.length ≤ 100000
  | [], n, h => by simpa [byt] using h
  | w :: l, n, h => by
    simp only [byt] at h
    split at h
    · have h1 := byt_len l _ h; have h2 := byt1_ge w (n + (1 + w.length)); simp only [List.length_cons]; omega
    · omega
def sumS {α : Type} (f : α → Nat) : List α → Nat → Nat
  | [], n => n
  | s :: S, n => if n ≤ 100000 then sumS f S (n + f s) else n
theorem sumS_ge {α : Type} (f : α → Nat) : ∀ (S : List α) (n : Nat), n ≤ sumS f S n
  | [], n => Nat.le_refl _
  | s :: S, n => by
    simp only [sumS]
    split
    · have := sumS_ge f S (n + f s); omega
    · omega
theorem sumS_all {α : Type} (f : α → Nat) : ∀ (S : List α) (n : Nat), sumS f S n ≤ 100000 → ∀ s ∈ S, f s ≤ 100000
  | [], n, _, s, hs => by cases hs
  | t :: S, n, h, s, hs => by
    simp only [sumS] at h
    split at h
    · have h1 := sumS_ge f S (n + f t)
      rcases List.mem_cons.1 hs with rfl | hs
      · omega
      · exact sumS_all f S _ h s hs
    · omega
theorem sumS_le {α : Type} (f : α → Nat) : ∀ (S : List α) (n : Nat), (∀ s ∈ S, f s ≤ 160000000000000) → n ≤ 200000000000000 → sumS f S n ≤ 200000000000000
  | [], n, _, h => h
  | t :: S, n, hf, h => by
    simp only [sumS]
    split
    · exact sumS_le f S _ (fun s hs => hf s (by simp [hs])) (by have := hf t (by simp); omega)
    · exact h
def bS (s : List (List Bs)) : Nat := byt s 0
def bC (s : SeenT) : Nat := byt [s.1, s.2.1, s.2.2.1] 0
theorem spellReals_ok (m : MixT) (hm : mixC m) : FOk Try.prog 8 [.v (mixV m)] [] (.B true) [] := by
  obtain ⟨S, L, l, u⟩ := m
  obtain ⟨⟨hS1, hS2⟩, ⟨hL1, hL2⟩, ⟨hl1, hl2⟩, _⟩ := hm
  simp only at hS1 hS2 hL1 hL2 hl1 hl2
  have hk := fok13
  have hbS : ∀ s ∈ S, bS s ≤ 160000000000000 := fun s hs => byt_le s 0 (hS2 s hs).2 (by omega)
  have hbC : ∀ s ∈ L, bC s ≤ 160000000000000 := fun s hs => byt_le _ 0 (by
    intro w hw
    have := hL2 s hs
    simp only [List.mem_cons, List.not_mem_nil, or_false] at hw
    rcases hw with rfl | rfl | rfl
    · exact this.1
    · exact this.2.1
    · exact this.2.2.1) (by omega)
  refine FOk.val k8 (by simp) (by simp) (by decide) ?_
  simp (disch := omega) [c8, mixV, wrap_i64, PV.words]
  refine Run.loopA (ι := Nat × Nat) [(1, 1)] (fun q => q.1 ≤ S.length ∧ q.2 ≤ 200000000000000 ∧ sumS bS (S.drop q.1) q.2 = sumS bS S (S.length + L.length + l.length)) (fun q => ⟨[(1, .ptr 1 0 0), (3, .I q.2), (4, .I q.1)], [(1, ⟨false, 3, [mixV (S, L, l, ())]⟩)], 1024⟩) (fun q => S.length - q.1) (0, S.length + L.length + l.length) (by decide) (by simp [mixV, PV.words]) ⟨by simp, by simp only []; omega, by simp⟩ ?_
  rintro ⟨i, n⟩ ⟨hi, hn, hall⟩ ih
  simp only at hi hn hall
  by_cases h : i < S.length ∧ n ≤ 100000
  · obtain ⟨h, hn1⟩ := h
    rw [drop_at h] at hall
    simp only [sumS, hn1, if_true] at hall
    have hs := hS2 _ (List.getElem_mem h)
    have hbs := hbS _ (List.getElem_mem h)
    have hcall := fok12 S[i] (fun w hw => (hs.2 w hw).s) (by have := hs.1; omega)
    simp only [wordsV] at hcall
    simp (disch := omega) [h, hn1, wrap_i64, mixV, PV.words]
    refine CallG.lent rfl rfl rfl rfl hcall rfl ?_
    have hb0 : byt S[i] 0 = bS S[i] := rfl
    rw [hb0]
    simp (disch := omega) [wrap_i64]
    exact ih (i + 1, n + bS S[i]) _ ⟨by omega, by simp only []; omega, hall⟩ (by simp only []; omega) (by simp [mixV, PV.words])
  have hend : n = sumS bS S (S.length + L.length + l.length) := by
    by_cases h2 : i < S.length
    · rw [drop_at h2] at hall
      simp only [sumS] at hall
      rw [if_neg (by omega)] at hall
      exact hall
    · rw [drop_no h2] at hall; exact hall
  clear hall ih
  generalize hN : sumS bS S (S.length + L.length + l.length) = N at hend
  subst hend
  by_cases h2 : i < S.length
  case' pos =>
    have h3 : ¬ n ≤ 100000 := fun q => h ⟨h2, q⟩
    simp (disch := omega) [h2, h3, wrap_i64, mixV, PV.words]
  case' neg => simp (disch := omega) [h2, wrap_i64, mixV, PV.words]
  all_goals
    clear h h2
    refine Run.loopA (ι := Nat × Nat) [(1, 1)] (fun q => q.1 ≤ L.length ∧ q.2 ≤ 200000000000000 ∧ sumS bC (L.drop q.1) q.2 = sumS bC L n) (fun q => ⟨[(1, .ptr 1 0 0), (3, .I q.2), (5, .I q.1)], [(1, ⟨false, 3, [mixV (S, L, l, ())]⟩)], 1024⟩) (fun q => L.length - q.1) (0, n) (by decide) (by simp [mixV, PV.words]) ⟨by simp, by simp only []; omega, by simp⟩ ?_
    rintro ⟨k, n2⟩ ⟨hk1, hn2, hall⟩ ih
    simp only at hk1 hn2 hall
    by_cases h : k < L.length ∧ n2 ≤ 100000
    · obtain ⟨h, hn1⟩ := h
      rw [drop_at h] at hall
      simp only [sumS, hn1, if_true] at hall
      have hs := hL2 _ (List.getElem_mem h)
      have hbs := hbC _ (List.getElem_mem h)
      have hb0 : byt [L[k].1, L[k].2.1, L[k].2.2.1] 0 = bC L[k] := rfl
      have hcall := fok12 [L[k].1, L[k].2.1, L[k].2.2.1] (fun w hw => by
        simp only [List.mem_cons, List.not_mem_nil, or_false] at hw
        rcases hw with rfl | rfl | rfl
        · exact hs.1.s
        · exact hs.2.1.s
        · exact hs.2.2.1.s) (by simp)
      rw [hb0] at hcall
      clear hb0
      generalize hxx : L[k] = s at *
      obtain ⟨a, w, c, m, u2⟩ := s
      simp only [wordsV, List.map_cons, List.map_nil] at hcall
      simp (disch := omega) [h, hn1, wrap_i64, mixV, PV.words, hxx, seenV]
      refine CallG.lent rfl rfl rfl rfl hcall rfl ?_
      simp (disch := omega) [wrap_i64]
      exact ih (k + 1, n2 + bC (a, w, c, m, u2)) _ ⟨by omega, by simp only []; omega, hall⟩ (by simp only []; omega) (by simp [mixV, PV.words])
    have hend2 : n2 = sumS bC L n := by
      by_cases h2 : k < L.length
      · rw [drop_at h2] at hall
        simp only [sumS] at hall
        rw [if_neg (by omega)] at hall
        exact hall
      · rw [drop_no h2] at hall; exact hall
    clear hall ih
    have hreal : n2 ≤ 100000 → MixS S L l ∧ ∀ s ∈ S, s.length ≤ 1000000 := fun q => by
      have q1 := sumS_ge bC L n
      have q2 := sumS_all bS S (S.length + L.length + l.length) (by omega)
      refine ⟨⟨by omega, fun s hs => ⟨by have := (hS2 s hs).1; omega, fun w hw => ((hS2 s hs).2 w hw).s⟩, by omega, fun s hs => ⟨(hL2 s hs).1.s, (hL2 s hs).2.1.s, (hL2 s hs).2.2.1.s⟩, by omega, fun w hw => (hl2 w hw).s⟩, fun s hs => ?_⟩
      have q3 := byt_len s 0 (q2 s hs)
      omega
    have hcall := fok12 l (fun w hw => (hl2 w hw).s) (by omega)
    simp only [wordsV] at hcall
    clear hend2 hN hbS hbC hS2 hL2 hl2
    generalize byt l 0 = n3 at hcall
    by_cases h2 : k < L.length
    case' pos =>
      have h3 : ¬ n2 ≤ 100000 := fun q => h ⟨h2, q⟩
      have h4 : 100000 < n2 := by omega
      simp (disch := omega) [h2, h3, h4, wrap_i64, mixV, PV.words]
    case' neg => simp (disch := omega) [h2, wrap_i64, mixV, PV.words]
    case pos =>
      refine CallG.lent rfl rfl rfl rfl hk rfl ?_
      simp
      exact Ends.v rfl (by simp)
    refine ⟨fun q => ?_, fun _ => ?_⟩
    case refine_2 =>
      refine CallG.lent rfl rfl rfl rfl hk rfl ?_
      simp
      exact Ends.v rfl (by simp)
    obtain ⟨hM, hB⟩ := hreal q
    have hR := fok27 S L l hM
    have hQ := fok28 S L l hM hB
    have hlen : (realF S L l).1.length ≤ 1000000 := by
      unfold realF
      split
      · rename_i h0
        have := outI_len S L l l.length
        have := (mixF_ok h0).2.2.1
        simp only []; omega
      · simp
    have hI := fok29 (realF S L l).1 (realF S L l).1 hlen
    generalize realF S L l = r at hR hQ hI
    simp only [PV.words] at hR hQ
    refine CallG.lent rfl rfl rfl rfl hcall rfl ?_
    simp (disch := omega) [wrap_i64]
    refine ⟨fun _ => ?_, fun _ => ?_⟩
    case refine_1 =>
      refine CallG.lent rfl rfl rfl rfl hk rfl ?_
      simp
      exact Ends.v rfl (by simp)
    refine CallG.plain rfl rfl rfl rfl hR (by simp) (by simp) ?_
    simp
    refine CallG.plain rfl rfl rfl rfl hQ (by simp) (by simp) ?_
    simp
    refine CallG.lent rfl rfl rfl rfl hI rfl ?_
    simp
    refine CallG.lent rfl rfl rfl rfl hk rfl ?_
    simp
    exact Ends.v rfl (by simp)

end Go.Proofs

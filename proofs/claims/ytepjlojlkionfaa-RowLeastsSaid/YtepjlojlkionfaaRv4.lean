/- The walk. -/
import Derived.Test.YtepjlojlkionfaaRv2
import Derived.Test.YtepjlojlkionfaaRq1
import Derived.Test.YtepjlojlkionfaaProg
import Derived.KernelRfl
set_option linter.all false
set_option maxHeartbeats 2000000
namespace Go.Proofs
open Go Go.AM
attribute [local irreducible] Run Ends
/-- ablaut/ablautref19.isAhead -/
def c97 : MC :=
  .seq (.reg false [.op .none 2 (.box false (.t 0)),
    .op .none 3 (.box false (.t 1)),
    .op .none 4 (.mv (.c (.w (.bool false))))]) <|
  .seq (.seq (.reg false [.op .none 6 (.fa 0 (.t 2)),
    .op .none 7 (.ld false 1 (.t 6)),
    .op .none 8 (.fa 0 (.t 3)),
    .op .none 9 (.ld false 1 (.t 8)),
    .op .none 10 (.bin .neq (.t 7) (.t 9))]) <|
  .cond (.t 10)
    (.seq (.reg false [.op .none 11 (.fa 0 (.t 2)),
      .op .none 12 (.ld false 1 (.t 11)),
      .op .none 13 (.fa 0 (.t 3)),
      .op .none 14 (.ld false 1 (.t 13)),
      .op .none 15 (.bin .lss (.t 12) (.t 14)),
      .op .none 4 (.mv (.t 15))]) <|
    .ret)
    (.skip)) <|
  .seq (.seq (.reg false [.op .none 5 (.mv (.c (.w (.int .i64 0))))]) <|
  .block 0 <|
    .loop <|
      .seq (.seq (.reg false [.op .none 16 (.mv (.t 5)),
        .op .none 17 (.fa 1 (.t 2)),
        .op .none 18 (.ld false 1 (.t 17)),
        .op .none 19 (.len false (.t 18)),
        .op .none 20 (.bin .lss (.t 16) (.t 19))]) <|
      .cond (.t 20)
        (.skip)
        (.exit 0)) <|
      .seq (.block 1 <|
        .seq (.reg true [.op .none 23 (.fa 1 (.t 2)),
          .op .none 24 (.ld false 1 (.t 23)),
          .op .none 25 (.mv (.t 5)),
          .op .none 26 (.ia 1 (.t 24) (.t 25)),
          .op .none 27 (.ld false 1 (.t 26)),
          .op .none 28 (.fa 1 (.t 3)),
          .op .none 29 (.ld false 1 (.t 28)),
          .op .none 30 (.mv (.t 5)),
          .op .none 31 (.ia 1 (.t 29) (.t 30)),
          .op .none 32 (.ld false 1 (.t 31)),
          .op .none 33 (.bin .neq (.t 27) (.t 32))]) <|
        .cond (.t 33)
          (.seq (.reg true [.op .none 34 (.fa 1 (.t 2)),
            .op .none 35 (.ld false 1 (.t 34)),
            .op .none 36 (.mv (.t 5)),
            .op .none 37 (.ia 1 (.t 35) (.t 36)),
            .op .none 38 (.ld false 1 (.t 37)),
            .op .none 39 (.fa 1 (.t 3)),
            .op .none 40 (.ld false 1 (.t 39)),
            .op .none 41 (.mv (.t 5)),
            .op .none 42 (.ia 1 (.t 40) (.t 41)),
            .op .none 43 (.ld false 1 (.t 42)),
            .op .none 44 (.bin .lss (.t 38) (.t 43)),
            .op .none 4 (.mv (.t 44))]) <|
          .ret)
          (.skip)) <|
      .reg false [.op .none 21 (.mv (.t 5)),
        .op .none 22 (.bin .add (.t 21) (.c (.w (.int .i64 1)))),
        .op .none 5 (.mv (.t 22))]) <|
  .seq (.reg false [.op .none 4 (.mv (.c (.w (.bool false))))]) <|
  .ret
theorem k97 : FnCode Try.prog 97 [] 45 [4] c97 := ⟨Try.f97, Try.func97, fun xs W => Try.call97 xs W, by kernel_rfl, by kernel_rfl, by kernel_rfl⟩

/-- ablaut/ablautref19.into -/
def c66 : MC :=
  .seq (.reg false [.op .none 3 (.box false (.t 1)),
    .op .none 4 (.nilS 2)]) <|
  .seq (.seq (.reg false [.op .none 5 (.mv (.c (.w (.int .i64 0))))]) <|
  .block 0 <|
    .loop <|
      .seq (.seq (.reg false [.op .none 7 (.mv (.t 5)),
        .op .none 8 (.mv (.t 0)),
        .op .none 9 (.len false (.t 8)),
        .op .none 10 (.bin .lss (.t 7) (.t 9))]) <|
      .cond (.t 10)
        (.skip)
        (.exit 0)) <|
      .seq (.block 1 <|
        .seq (.reg true [.op .none 13 (.ld true 2 (.t 3)),
          .op .none 14 (.mv (.t 0)),
          .op .none 15 (.mv (.t 5)),
          .op .none 16 (.ia 2 (.t 14) (.t 15)),
          .op .none 17 (.ld true 2 (.t 16)),
          .call .none 18 (.f 97) [(.t 13), (.t 17)]]) <|
        .cond (.t 18)
          (.seq (.reg false [.op .none 19 (.buildS false 2 0 true [(.w (.int .i64 0)), (.sl 1 [])] []),
            .op .none 20 (.mv (.t 0)),
            .op .none 21 (.mv (.t 5)),
            .op .none 22 (.slc false 2 (.t 20) .none (.some (.t 21))),
            .op .none 23 (.app 2 32 (.t 19) (.t 22)),
            .op .none 6 (.mv (.t 23))]) <|
          .seq (.reg false [.op .none 24 (.mv (.t 6)),
            .op .none 25 (.ld true 2 (.t 3)),
            .op .none 26 (.buildS false 2 1 true [(.w (.int .i64 0)), (.sl 1 [])] [(0, (.t 25))]),
            .op .none 27 (.app 2 32 (.t 24) (.t 26)),
            .op .none 6 (.mv (.t 27))]) <|
          .seq (.reg false [.op .none 28 (.mv (.t 6)),
            .op .none 29 (.mv (.t 0)),
            .op .none 30 (.mv (.t 5)),
            .op .none 31 (.slc false 2 (.t 29) (.some (.t 30)) .none),
            .op .none 32 (.app 2 32 (.t 28) (.t 31)),
            .op .none 4 (.mv (.t 32))]) <|
          .ret)
          (.skip)) <|
      .reg false [.op .none 11 (.mv (.t 5)),
        .op .none 12 (.bin .add (.t 11) (.c (.w (.int .i64 1)))),
        .op .none 5 (.mv (.t 12))]) <|
  .seq (.reg false [.op .none 33 (.mv (.t 0)),
    .op .none 34 (.ld true 2 (.t 3)),
    .op .none 35 (.buildS false 2 1 true [(.w (.int .i64 0)), (.sl 1 [])] [(0, (.t 34))]),
    .op .none 36 (.app 2 32 (.t 33) (.t 35)),
    .op .none 4 (.mv (.t 36))]) <|
  .ret
theorem k66 : FnCode Try.prog 66 [] 37 [4] c66 := ⟨Try.f66, Try.func66, fun xs W => Try.call66 xs W, by kernel_rfl, by kernel_rfl, by kernel_rfl⟩

def tlV (f : List Nat → Int) (a : List Nat) : PV := .st [.i (f a), natsV a]
def insG {α : Type} (c : α → α → Int) : List α → α → List α
  | [], x => [x]
  | y :: l, x => if c x y < 0 then x :: y :: l else y :: insG c l x
theorem insG_perm {α : Type} (c : α → α → Int) : ∀ (l : List α) (x : α), (insG c l x).Perm (x :: l)
  | [], x => List.Perm.refl _
  | y :: l, x => by
    simp only [insG]
    split
    · exact List.Perm.refl _
    · exact ((insG_perm c l x).cons y).trans (List.Perm.swap x y l)
theorem insG_pw {α : Type} {c : α → α → Int} (L : Lin c) : ∀ (l : List α) (x : α), l.Pairwise (fun a b => ¬ c b a < 0) → (insG c l x).Pairwise (fun a b => ¬ c b a < 0)
  | [], x, _ => by simp [insG]
  | y :: l, x, h => by
    simp only [insG]
    rw [List.pairwise_cons] at h
    split
    · rename_i hxy
      rw [List.pairwise_cons, List.pairwise_cons]
      refine ⟨fun z hz => ?_, h⟩
      rcases List.mem_cons.1 hz with rfl | hz
      · exact fun h2 => by have := L.asy hxy; exact this h2
      · exact fun h2 => h.1 z hz (L.tr h2 hxy)
    · rename_i hxy
      rw [List.pairwise_cons]
      refine ⟨fun z hz => ?_, insG_pw L l x h.2⟩
      rcases List.mem_cons.1 ((insG_perm c l x).mem_iff.1 hz) with rfl | hz
      · exact hxy
      · exact h.1 z hz
theorem foldl_ins {α : Type} {c : α → α → Int} (L : Lin c) : ∀ (l acc : List α), acc.Pairwise (fun a b => ¬ c b a < 0) → (l.foldl (insG c) acc).Perm (acc ++ l) ∧ (l.foldl (insG c) acc).Pairwise (fun a b => ¬ c b a < 0)
  | [], acc, h => by simpa using h
  | x :: l, acc, h => by
    obtain ⟨h1, h2⟩ := foldl_ins L l (insG c acc x) (insG_pw L acc x h)
    refine ⟨h1.trans ?_, h2⟩
    have := (insG_perm c acc x).append_right l
    refine this.trans ?_
    simpa using (List.perm_middle (a := x) (l₁ := acc) (l₂ := l)).symm
theorem ins_srt {α : Type} {c : α → α → Int} (L : Lin c) (l : List α) : l.foldl (insG c) [] = srt c l := by
  obtain ⟨h1, h2⟩ := foldl_ins L l [] List.Pairwise.nil
  exact srt_uniq L (by simpa using h1) h2
theorem minL_min {α : Type} {c : α → α → Int} (L : Lin c) : ∀ (l : List α) (m : α), ∀ y ∈ m :: l, ¬ c y (minL c m l) < 0
  | [], m, y, hy => by
    simp only [List.mem_singleton] at hy
    subst hy
    exact L.irr y
  | x :: l, m, y, hy => by
    simp only [minL]
    have ih := minL_min L l (if c x m < 0 then x else m)
    by_cases q : c x m < 0
    · rw [if_pos q] at ih ⊢
      rcases List.mem_cons.1 hy with rfl | hy
      · have := ih x (by simp)
        exact fun h => this (L.tr q h)
      · exact ih y hy
    · rw [if_neg q] at ih ⊢
      rcases List.mem_cons.1 hy with rfl | hy
      · exact ih y (by simp)
      · rcases List.mem_cons.1 hy with rfl | hy
        · have := ih m (by simp)
          exact L.le_tr this q
        · exact ih y (by simp [hy])
theorem srt_head {α : Type} {c : α → α → Int} (L : Lin c) (x : α) (l : List α) : ∃ r, srt c (x :: l) = minL c x l :: r := by
  have hp := srt_perm (c := c) (x :: l)
  have hs := srt_pw L (x :: l)
  cases e : srt c (x :: l) with
  | nil => rw [e] at hp; have := hp.length_eq; simp at this
  | cons y r =>
    rw [e] at hp hs
    rw [List.pairwise_cons] at hs
    have hy : y ∈ x :: l := hp.mem_iff.1 (by simp)
    have h1 := minL_min L l x y hy
    have hm : minL c x l ∈ y :: r := hp.mem_iff.2 (minL_mem c l x)
    rcases List.mem_cons.1 hm with h | h
    · exact ⟨r, by rw [h]⟩
    · exact ⟨r, by rw [L.anti (hs.1 _ h) h1]⟩
theorem fok97 (f : List Nat → Int) (a b : List Nat) (hab : a.length = b.length) (ha : a.length ≤ 1000) : FOk Try.prog 97 [.v (tlV f a), .v (tlV f b)] [] (.B (decide (cmpP f a b < 0))) [] := by
  refine FOk.val k97 (by simp) (by simp) (by decide) ?_
  generalize hres : decide (cmpP f a b < 0) = res
  unfold cmpP at hres
  simp [c97, tlV, natsV]
  by_cases e : f a = f b
  case neg =>
    have e' : ¬ cmpZ (f a) (f b) = 0 := by rw [cmpZ_eq]; exact e
    rw [if_neg e'] at hres
    have e2 : decide (cmpZ (f a) (f b) < 0) = decide (f a < f b) := by simp only [cmpZ_lt]
    rw [e2] at hres
    simp [e]
    exact Ends.v rfl (by simp [← hres])
  have e' : cmpZ (f a) (f b) = 0 := by rw [cmpZ_eq]; exact e
  rw [if_pos e'] at hres
  simp [e]
  refine Run.loopA (ι := Nat) [(1, 2), (2, 3)] (fun i => i ≤ a.length ∧ cmpNs (a.drop i) (b.drop i) = cmpNs a b) (fun i => ⟨[(2, .ptr 1 0 0), (3, .ptr 2 0 0), (5, .I i)], [(1, ⟨false, 2, [tlV f a]⟩), (2, ⟨false, 2, [tlV f b]⟩)], 1024⟩) (fun i => a.length - i) 0 (by decide) (by simp [tlV, natsV, e]) ⟨by simp, by simp⟩ ?_
  rintro i ⟨hi, hall⟩ ih
  by_cases h : i < a.length
  · have hb : i < b.length := by omega
    rw [drop_at h, drop_at hb] at hall
    simp only [cmpNs] at hall
    by_cases q : a[i] = b[i]
    · have q' : cmpZ (a[i] : Int) (b[i] : Int) = 0 := by rw [cmpZ_eq, q]
      rw [if_pos q'] at hall
      simp (disch := omega) [h, hb, q, wrap_i64, tlV, natsV]
      exact ih (i + 1) _ ⟨by omega, hall⟩ (by omega) (by simp [tlV, natsV])
    · have q' : ¬ cmpZ (a[i] : Int) (b[i] : Int) = 0 := by rw [cmpZ_eq]; omega
      have q2 : ¬ ((a[i] : Int) = (b[i] : Int)) := by omega
      rw [if_neg q'] at hall
      rw [← hall] at hres
      have e2 : decide (cmpZ (a[i] : Int) (b[i] : Int) < 0) = decide (a[i] < b[i]) := by
        have : cmpZ (a[i] : Int) (b[i] : Int) < 0 ↔ a[i] < b[i] := by rw [cmpZ_lt]; omega
        simp only [this]
      rw [e2] at hres
      simp (disch := omega) [h, hb, q, q2, wrap_i64, tlV, natsV]
      exact Ends.v rfl (by simp [← hres])
  · have hb : ¬ i < b.length := by omega
    rw [drop_no h, drop_no hb] at hall
    rw [← hall] at hres
    simp [h, tlV, natsV]
    exact Ends.v rfl (by simp [← hres, cmpNs])
theorem fok66 (f : List Nat → Int) (L : List (List Nat)) (x : List Nat) (n : Nat) (hL : ∀ a ∈ L, a.length = n) (hx : x.length = n) (hn : n ≤ 1000) (hl : L.length ≤ 1000) : FOk Try.prog 66 [.h 0, .v (tlV f x)] [(0, ⟨false, 2, L.map (tlV f)⟩)] (.h 1) [(1, ⟨false, 2, (insG (cmpP f) L x).map (tlV f)⟩)] := by
  have hc := fun b (hb : b ∈ L) => fok97 f x b (by rw [hx, hL b hb]) (by omega)
  have hxv : tlV f x = .st [.i (f x), natsV x] := rfl
  refine FOk.of k66 1 (by simp) (by decide) (by simp) (by simp) (by intro k e e' h1 h2; simp [find_cons, find_nil] at h1 h2; omega) (by decide) ?_
  have hv : ∀ a, tlV f a = .st [.i (f a), natsV a] := fun _ => rfl
  simp [c66, hv]
  generalize hres : insG (cmpP f) L x = res
  refine Run.loopA (ι := Nat) [(0, 0), (1, 3)] (fun i => i ≤ L.length ∧ L.take i ++ insG (cmpP f) (L.drop i) x = res) (fun i => ⟨[(0, .h 0), (3, .ptr 1 0 0), (5, .I i)], [(1, ⟨false, 2, [tlV f x]⟩), (0, ⟨false, 2, L.map (tlV f)⟩)], 1024⟩) (fun i => L.length - i) 0 (by decide) (by simp [hv]) ⟨by simp, by simpa using hres⟩ ?_
  rintro i ⟨hi, hall⟩ ih
  by_cases h : i < L.length
  · rw [drop_at h] at hall
    simp only [insG] at hall
    have hcc := hc _ (List.getElem_mem h)
    generalize hy : L[i] = y at hall hcc
    simp only [hv] at hcc
    simp (disch := omega) [h, hy, wrap_i64, hv]
    refine CallG.lent rfl rfl rfl rfl hcc rfl ?_
    by_cases q : cmpP f x y < 0
    · rw [if_pos q] at hall
      have hd : y :: L.drop (i + 1) = L.drop i := by rw [drop_at h, hy]
      rw [hd] at hall
      have b1 : (i + 1000) * 32 ≤ 70368744177664 := by omega
      have b2 : (i + 1 + 1000) * 32 ≤ 70368744177664 := by clear b1; omega
      have b3 : (i + 1 + (L.length - i) + 1000) * 32 ≤ 70368744177664 := by clear b1 b2; omega
      have hmn : min i L.length = i := by omega
      simp (disch := (clear b1 b2 b3; omega)) [h, hi, q, wrap_i64, hv, b1, b2, b3, hmn]
      have ht : (L.map (tlV f)).take L.length = L.map (tlV f) := List.take_of_length_le (by simp)
      exact Ends.moved 9 33824 (by decide) rfl rfl (by simp) (by simp [← hall, ht, hv, List.map_take, List.map_drop])
    · rw [if_neg q] at hall
      simp (disch := omega) [h, q, wrap_i64, hv]
      exact ih (i + 1) _ ⟨by omega, by rw [← hall, List.take_succ_eq_append_getElem h, hy]; simp⟩ (by omega) (by simp [hv])
  · rw [drop_no h] at hall
    have hi' : i = L.length := by omega
    subst hi'
    rw [List.take_length] at hall
    simp only [insG] at hall
    have b1 : (L.length + 1 + 1000) * 32 ≤ 70368744177664 := by omega
    simp (disch := (clear b1; omega)) [wrap_i64, b1, hv]
    exact Ends.moved 9 9252 (by decide) rfl rfl (by simp) (by simp [← hall, hv])

end Go.Proofs

/- The walk. -/
import Derived.Test.YtlhpjeckaepdlaaTr3
import Derived.Test.YtlhpjeckaepdlaaProg
import Derived.KernelRfl
set_option linter.all false
set_option maxHeartbeats 2000000
namespace Go.Proofs
open Go Go.AM
attribute [local irreducible] Run Ends
/-- ablaut/transfer.long$1$1 -/
def c93 : MC :=
  .seq (.reg false [.op .none 2 (.mv (.c (.w (.bool false))))]) <|
  .seq (.reg false [.op .none 3 (.mv (.t 0)),
    .op .none 4 (.len true (.t 3)),
    .op .none 5 (.bin .gtr (.t 4) (.c (.w (.int .i64 400)))),
    .op .none 2 (.mv (.t 5))]) <|
  .ret
theorem k93 : FnCode Try.prog 93 [] 6 [2] c93 := ⟨Try.f93, Try.func93, fun xs W => Try.call93 xs W, by kernel_rfl, by kernel_rfl, by kernel_rfl⟩

/-- ablaut/transfer.long$1 -/
def c91 : MC :=
  .seq (.reg false [.op .none 2 (.mv (.c (.w (.bool false))))]) <|
  .seq (.reg false [.op .none 3 (.mv (.t 0)),
    .op .none 4 (.len false (.t 3)),
    .op .none 5 (.bin .gtr (.t 4) (.c (.w (.int .i64 16)))),
    .op .none 6 (.mv (.t 5)),
    .op (.some (6, false)) 7 (.mv (.t 0)),
    .call (.some (6, false)) 8 (.f 92) [(.t 7), (.f 93)],
    .op .none 9 (.pick (.t 6) (.c (.w (.bool true))) (.t 8)),
    .op .none 2 (.mv (.t 9))]) <|
  .ret
theorem k91 : FnCode Try.prog 91 [] 10 [2] c91 := ⟨Try.f91, Try.func91, fun xs W => Try.call91 xs W, by kernel_rfl, by kernel_rfl, by kernel_rfl⟩

/-- ablaut/transfer.long -/
def c53 : MC :=
  .seq (.reg false [.op .none 2 (.mv (.c (.w (.bool false))))]) <|
  .seq (.reg false [.op .none 3 (.mv (.t 0)),
    .call .none 4 (.f 38) [(.t 3), (.f 91)],
    .op .none 2 (.mv (.t 4))]) <|
  .ret
theorem k53 : FnCode Try.prog 53 [] 5 [2] c53 := ⟨Try.f53, Try.func53, fun xs W => Try.call53 xs W, by kernel_rfl, by kernel_rfl, by kernel_rfl⟩

/-- ablaut/ablautref28.isLarge -/
def c46 : MC :=
  .seq (.reg false [.op .none 2 (.mv (.c (.w (.bool false))))]) <|
  .seq (.seq (.reg false [.op .none 3 (.mv (.c (.w (.int .i64 0))))]) <|
  .block 0 <|
    .loop <|
      .seq (.seq (.reg false [.op .none 4 (.mv (.t 3)),
        .op .none 5 (.mv (.t 0)),
        .op .none 6 (.len false (.t 5)),
        .op .none 7 (.bin .lss (.t 4) (.t 6))]) <|
      .cond (.t 7)
        (.skip)
        (.exit 0)) <|
      .seq (.block 1 <|
        .seq (.reg false [.op .none 10 (.mv (.t 0)),
          .op .none 11 (.mv (.t 3)),
          .op .none 12 (.ia 1 (.t 10) (.t 11)),
          .op .none 13 (.ld false 1 (.t 12)),
          .op .none 14 (.len true (.t 13)),
          .op .none 15 (.bin .gtr (.t 14) (.c (.w (.int .i64 400))))]) <|
        .cond (.t 15)
          (.seq (.reg false [.op .none 2 (.mv (.c (.w (.bool true))))]) <|
          .ret)
          (.skip)) <|
      .reg false [.op .none 8 (.mv (.t 3)),
        .op .none 9 (.bin .add (.t 8) (.c (.w (.int .i64 1)))),
        .op .none 3 (.mv (.t 9))]) <|
  .seq (.reg false [.op .none 16 (.mv (.t 0)),
    .op .none 17 (.len false (.t 16)),
    .op .none 18 (.bin .gtr (.t 17) (.c (.w (.int .i64 16)))),
    .op .none 2 (.mv (.t 18))]) <|
  .ret
theorem k46 : FnCode Try.prog 46 [] 19 [2] c46 := ⟨Try.f46, Try.func46, fun xs W => Try.call46 xs W, by kernel_rfl, by kernel_rfl, by kernel_rfl⟩

/-- slices.Clone[[]string,string] -/
def c74 : MC :=
  .seq (.reg false [.op .none 2 (.nilS 1)]) <|
  .seq (.seq (.reg false [.op .none 3 (.mv (.t 0)),
    .op .none 4 (.nilq false (.t 3))]) <|
  .cond (.t 4)
    (.seq (.reg false [.op .none 2 (.nilS 1)]) <|
    .ret)
    (.skip)) <|
  .seq (.reg false [.op .none 5 (.buildS false 1 0 false [(.w (.string ⟨#[]⟩))] []),
    .op .none 6 (.mv (.t 0)),
    .op .none 7 (.app 1 16 (.t 5) (.t 6)),
    .op .none 2 (.mv (.t 7))]) <|
  .ret
theorem k74 : FnCode Try.prog 74 [] 8 [2] c74 := ⟨Try.f74, Try.func74, fun xs W => Try.call74 xs W, by kernel_rfl, by kernel_rfl, by kernel_rfl⟩

/-- ablaut/transfer.large$1 -/
def c83 : MC :=
  .seq (.reg false [.op .none 1 (.box false (.t 0)),
    .op .none 2 (.mv (.c (.w (.bool false))))]) <|
  .seq (.reg false [.op .none 3 (.fa 2 (.t 1)),
    .op .none 4 (.ld false 1 (.t 3)),
    .op .none 5 (.fa 4 (.t 1)),
    .op .none 6 (.ld false 1 (.t 5)),
    .op .none 7 (.fa 1 (.t 1)),
    .op .none 8 (.ld false 1 (.t 7)),
    .op .none 9 (.buildS false 1 1 false [(.w (.string ⟨#[]⟩))] [(0, (.t 8))]),
    .op .none 10 (.buildS false 1 3 false [(.sl 1 [])] [(0, (.t 4)), (1, (.t 6)), (2, (.t 9))]),
    .call .none 11 (.f 53) [(.t 10)],
    .op .none 2 (.mv (.t 11))]) <|
  .ret
theorem k83 : FnCode Try.prog 83 [] 12 [2] c83 := ⟨Try.f83, Try.func83, fun xs W => Try.call83 xs W, by kernel_rfl, by kernel_rfl, by kernel_rfl⟩

/-- ablaut/transfer.large -/
def c34 : MC :=
  .seq (.reg false [.op .none 1 (.box false (.t 0)),
    .op .none 2 (.mv (.c (.w (.bool false))))]) <|
  .seq (.seq (.reg false [.op .none 7 (.fa 0 (.t 1)),
    .op .none 8 (.ld false 1 (.t 7)),
    .op .none 9 (.len false (.t 8)),
    .op .none 10 (.bin .gtr (.t 9) (.c (.w (.int .i64 300)))),
    .op .none 11 (.mv (.t 10)),
    .op (.some (11, false)) 12 (.fa 1 (.t 1)),
    .op (.some (11, false)) 13 (.ld false 1 (.t 12)),
    .op (.some (11, false)) 14 (.len false (.t 13)),
    .op (.some (11, false)) 15 (.bin .gtr (.t 14) (.c (.w (.int .i64 24)))),
    .op .none 16 (.pick (.t 11) (.c (.w (.bool true))) (.t 15))]) <|
  .cond (.t 16)
    (.seq (.reg false [.op .none 2 (.mv (.c (.w (.bool true))))]) <|
    .ret)
    (.skip)) <|
  .seq (.seq (.reg false [.op .none 17 (.fa 0 (.t 1)),
    .op .none 18 (.ld false 1 (.t 17)),
    .op .none 19 (.len false (.t 18)),
    .op .none 20 (.mv (.c (.w (.int .i64 0))))]) <|
  .block 0 <|
    .loop <|
      .seq (.reg false [.op .none 21 (.bin .lss (.t 20) (.t 19))]) <|
      .seq (.cond (.t 21)
        (.skip)
        (.exit 0)) <|
      .seq (.block 1 <|
        .seq (.reg false [.op .none 22 (.ia 4 (.t 18) (.t 20)),
          .op .none 23 (.ld true 4 (.t 22)),
          .op .none 4 (.alloc true [(.w (.string ⟨#[]⟩)), (.sl 1 []), (.w (.string ⟨#[]⟩)), (.sl 1 [])]),
          .store .none true 4 (.t 4) (.t 23)]) <|
        .seq (.reg false [.op .none 24 (.fa 1 (.t 4)),
          .op .none 25 (.ld false 1 (.t 24)),
          .op .none 26 (.fa 3 (.t 4)),
          .op .none 27 (.ld false 1 (.t 26)),
          .op .none 28 (.fa 0 (.t 4)),
          .op .none 29 (.ld false 1 (.t 28)),
          .op .none 30 (.fa 2 (.t 4)),
          .op .none 31 (.ld false 1 (.t 30)),
          .op .none 32 (.buildS false 1 2 false [(.w (.string ⟨#[]⟩))] [(0, (.t 29)), (1, (.t 31))]),
          .op .none 33 (.buildS false 1 3 false [(.sl 1 [])] [(0, (.t 25)), (1, (.t 27)), (2, (.t 32))]),
          .call .none 34 (.f 53) [(.t 33)]]) <|
        .cond (.t 34)
          (.seq (.reg false [.op .none 2 (.mv (.c (.w (.bool true))))]) <|
          .ret)
          (.skip)) <|
      .reg false [.op .none 35 (.bin .add (.t 20) (.c (.w (.int .i64 1)))),
        .op .none 20 (.mv (.t 35))]) <|
  .seq (.seq (.reg false [.op .none 36 (.fa 1 (.t 1)),
    .op .none 37 (.ld false 1 (.t 36)),
    .op .none 38 (.len false (.t 37)),
    .op .none 39 (.mv (.c (.w (.int .i64 0))))]) <|
  .block 2 <|
    .loop <|
      .seq (.reg false [.op .none 40 (.bin .lss (.t 39) (.t 38))]) <|
      .seq (.cond (.t 40)
        (.skip)
        (.exit 2)) <|
      .seq (.block 3 <|
        .seq (.reg false [.op .none 41 (.ia 2 (.t 37) (.t 39)),
          .op .none 42 (.ld true 2 (.t 41)),
          .op .none 6 (.alloc true [(.sl 1 []), (.sl 5 [])]),
          .store .none true 2 (.t 6) (.t 42)]) <|
        .seq (.reg false [.op .none 43 (.fa 0 (.t 6)),
          .op .none 44 (.ld false 1 (.t 43)),
          .op .none 45 (.len false (.t 44)),
          .op .none 46 (.bin .gtr (.t 45) (.c (.w (.int .i64 24)))),
          .op .none 47 (.mv (.t 46)),
          .op (.some (47, false)) 48 (.fa 1 (.t 6)),
          .op (.some (47, false)) 49 (.ld false 1 (.t 48)),
          .op (.some (47, false)) 50 (.len false (.t 49)),
          .op (.some (47, false)) 51 (.bin .gtr (.t 50) (.c (.w (.int .i64 24)))),
          .op .none 52 (.pick (.t 47) (.c (.w (.bool true))) (.t 51)),
          .op .none 53 (.mv (.t 52)),
          .op (.some (53, false)) 54 (.fa 0 (.t 6)),
          .op (.some (53, false)) 55 (.ld false 1 (.t 54)),
          .call (.some (53, false)) 56 (.f 53) [(.t 55)],
          .op .none 57 (.pick (.t 53) (.c (.w (.bool true))) (.t 56)),
          .op .none 58 (.mv (.t 57)),
          .op (.some (58, false)) 59 (.fa 1 (.t 6)),
          .op (.some (58, false)) 60 (.ld false 1 (.t 59)),
          .call (.some (58, false)) 61 (.f 40) [(.t 60), (.f 83)],
          .op .none 62 (.pick (.t 58) (.c (.w (.bool true))) (.t 61))]) <|
        .cond (.t 62)
          (.seq (.reg false [.op .none 2 (.mv (.c (.w (.bool true))))]) <|
          .ret)
          (.skip)) <|
      .reg false [.op .none 63 (.bin .add (.t 39) (.c (.w (.int .i64 1)))),
        .op .none 39 (.mv (.t 63))]) <|
  .seq (.reg false [.op .none 2 (.mv (.c (.w (.bool false))))]) <|
  .ret
theorem k34 : FnCode Try.prog 34 [] 64 [2] c34 := ⟨Try.f34, Try.func34, fun xs W => Try.call34 xs W, by kernel_rfl, by kernel_rfl, by kernel_rfl⟩

theorem fok93 (s : Bs) : FOk Try.prog 93 [.v (txtV s)] [] (.B (decide (400 < s.length))) [] := by
  refine FOk.val k93 (by simp) (by simp) (by decide) ?_
  simp [c93, txtV]
  exact Ends.v rfl (by simp)
theorem fok91 (w : List Bs) (hw : w.length ≤ 200000000000000) : FOk Try.prog 91 [.v (.word w)] [] (.B (lngW w)) [] := by
  have h1 := fok92 w _ _ _ (fixF0 93) (fun s => decide (400 < s.length)) (fun s _ => fok93 s) hw
  refine FOk.val k91 (by simp) (by simp) (by decide) ?_
  simp [c91]
  refine ⟨fun h => ?_, fun h => Ends.v rfl (by simp [lngW, h])⟩
  refine CallG.lent rfl rfl rfl rfl h1 rfl ?_
  have e : lngW w = w.any fun s => decide (400 < s.length) := by simp [lngW]; omega
  rw [e]
  generalize (w.any fun s => decide (400 < s.length)) = b
  simp
  exact Ends.v rfl (by simp)
theorem fok53 (ws : List (List Bs)) (hl : ws.length ≤ 200000000000000) (hw : ∀ w ∈ ws, w.length ≤ 200000000000000) : FOk Try.prog 53 [.v (wordsV ws)] [] (.B (ws.any lngW)) [] := by
  have h1 := fok38 ws _ _ _ (fixF0 91) lngW (fun w h => fok91 w (hw w h)) hl
  refine FOk.val k53 (by simp) (by simp) (by decide) ?_
  simp [c53, wordsV]
  refine CallG.lent rfl rfl rfl rfl h1 rfl ?_
  generalize ws.any lngW = b
  simp
  exact Ends.v rfl (by simp)
theorem fok46 (w : List Bs) (hw : w.length ≤ 200000000000000) : FOk Try.prog 46 [.v (.word w)] [] (.B (lngW w)) [] := by
  refine FOk.val k46 (by simp) (by simp) (by decide) ?_
  simp [c46]
  refine Run.loopA (ι := Nat) [] (fun i => i ≤ w.length ∧ ∀ s ∈ w.take i, decide (400 < s.length) = false) (fun i => ⟨[(0, .v (.word w)), (3, .I i)], [], 1024⟩) (fun i => w.length - i) 0 (by decide) (by simp) (by simp) ?_
  rintro i ⟨hi, hno⟩ ih
  by_cases h : i < w.length
  · by_cases hs : 400 < w[i].length
    · have ha : (w.any fun s => decide (400 < s.length)) = true := any_at _ w h (by simpa using hs)
      simp (disch := omega) [h, wrap_i64, hs]
      exact Ends.v rfl (by simp only [lngW, ha]; simp)
    · have hn2 := any_take (fun s : Bs => decide (400 < s.length)) w h hno (by simpa using hs)
      simp (disch := omega) [h, wrap_i64, hs]
      exact ih (i + 1) _ ⟨by omega, hn2⟩ (by omega) (by simp)
  · have hiw : i = w.length := by omega
    subst hiw
    rw [List.take_length] at hno
    have ha := any_end (fun s : Bs => decide (400 < s.length)) w hno
    have e : lngW w = decide (16 < w.length) := by simp only [lngW, ha]; simp
    rw [e]
    simp
    exact Ends.v rfl (by simp)
theorem fok74 (w : List Bs) (hw : w.length ≤ 1000000000) : FOk Try.prog 74 [.v (.word w)] [] (.v (.word w)) [] := by
  refine FOk.val k74 (by simp) (by simp) (by decide) ?_
  rcases w with _ | ⟨s, w⟩
  · simp [c74]
    exact ⟨Ends.v rfl (by simp), Ends.v rfl (by simp)⟩
  · have h2 : (w.length + 1 + 1000) * 16 ≤ 70368744177664 := by simp at hw; omega
    simp [c74, h2]
    exact Ends.v rfl (by simp)
def slotLng (s : SlotT) : Bool := [s.2.2.1, s.2.2.2.2.1, [s.2.1]].any lngW
def turnLng (r : TurnT) : Bool := [r.2.1, r.2.2.2.1, [r.1, r.2.2.1]].any lngW
def shufLng (r : ShufT) : Bool := decide (24 < r.1.length) || (decide (24 < r.2.1.length) || (r.1.any lngW || r.2.1.any slotLng))
def brLng (b : BrT) : Bool := decide (300 < b.1.length) || (decide (24 < b.2.1.length) || (b.1.any turnLng || b.2.1.any shufLng))
def slotS (s : SlotT) : Prop := wordS s.2.2.1 ∧ wordS s.2.2.2.2.1 ∧ smB s.2.1
def turnS (r : TurnT) : Prop := wordS r.2.1 ∧ wordS r.2.2.2.1 ∧ smB r.1 ∧ smB r.2.2.1
def shufS (r : ShufT) : Prop := r.1.length ≤ 200000000000000 ∧ (∀ w ∈ r.1, wordS w) ∧ r.2.1.length ≤ 200000000000000 ∧ ∀ s ∈ r.2.1, slotS s
def brS (b : BrT) : Prop := b.1.length ≤ 200000000000000 ∧ (∀ r ∈ b.1, turnS r) ∧ b.2.1.length ≤ 200000000000000 ∧ ∀ r ∈ b.2.1, shufS r
theorem fok83 (s : SlotT) (hs : slotS s) : FOk Try.prog 83 [.v (slotV s)] [] (.B (slotLng s)) [] := by
  obtain ⟨o, b, t, f, k, u⟩ := s
  have h1 := fok53 [t, k, [b]] (by simp) (by simp; exact ⟨hs.1.1, hs.2.1.1⟩)
  refine FOk.val k83 (by simp) (by simp) (by decide) ?_
  simp [c83, slotV]
  simp only [wordsV, List.map_cons, List.map_nil] at h1
  refine CallG.lent rfl rfl rfl rfl h1 rfl ?_
  have e : slotLng (o, b, t, f, k, u) = [t, k, [b]].any lngW := rfl
  rw [e]
  generalize [t, k, [b]].any lngW = bb
  simp
  exact Ends.v rfl (by simp)
theorem fok34 (b : BrT) (hb : brS b) : FOk Try.prog 34 [.v (brV b)] [] (.B (brLng b)) [] := by
  obtain ⟨R, S, u⟩ := b
  obtain ⟨b1, b2, b3, b4⟩ := hb
  simp only at b1 b2 b3 b4
  refine FOk.val k34 (by simp) (by simp) (by decide) ?_
  by_cases h1 : 300 < R.length
  · simp [c34, brV, h1]
    exact Ends.v rfl (by simp [brLng, h1])
  by_cases h2 : 24 < S.length
  · simp [c34, brV, h1, h2]
    exact Ends.v rfl (by simp [brLng, h2])
  have e0 : brLng (R, S, u) = (R.any turnLng || S.any shufLng) := by simp only [brLng, h1, h2]; simp
  rw [e0]
  simp [c34, brV, h1, h2]
  refine Run.loopA (ι := Nat) [(1, 1)] (fun i => i ≤ R.length ∧ ∀ s ∈ R.take i, turnLng s = false) (fun i => ⟨[(1, .ptr 1 0 0), (18, .v (.sl 4 (R.map turnV))), (19, .I R.length), (20, .I i)], [(1, ⟨false, 2, [brV (R, S, u)]⟩)], 1024⟩) (fun i => R.length - i) 0 (by decide) (by simp [brV]) (by simp) ?_
  rintro i ⟨hi, hno⟩ ih
  by_cases h : i < R.length
  · have hs := b2 _ (List.getElem_mem h)
    have hyes := any_at turnLng R h
    have hnext := any_take turnLng R h hno
    generalize hx : R[i] = r at hs hyes hnext
    obtain ⟨f, ii, t, p, u2⟩ := r
    have hc := fok53 [ii, p, [f, t]] (by simp) (by simp; exact ⟨hs.1.1, hs.2.1.1⟩)
    simp only [wordsV, List.map_cons, List.map_nil] at hc
    have e : turnLng (f, ii, t, p, u2) = [ii, p, [f, t]].any lngW := rfl
    rw [e] at hyes hnext
    generalize [ii, p, [f, t]].any lngW = bb at hc hyes hnext
    simp (disch := omega) [h, wrap_i64, brV, hx, turnV]
    refine CallG.lent rfl rfl rfl rfl hc rfl ?_
    cases bb
    · simp (disch := omega) [wrap_i64]
      exact ih (i + 1) _ ⟨by omega, hnext rfl⟩ (by omega) (by simp [brV])
    · simp (disch := omega) [wrap_i64]
      exact Ends.v rfl (by simp [hyes rfl])
  have hiR : i = R.length := by omega
  subst hiR
  rw [List.take_length] at hno
  rw [any_end turnLng R hno] at e0 ⊢
  clear ih h hno
  simp [brV]
  refine Run.loopA (ι := Nat) [] (fun i => i ≤ S.length ∧ ∀ s ∈ S.take i, shufLng s = false) (fun i => ⟨[(37, .v (.sl 2 (S.map shufV))), (38, .I S.length), (39, .I i)], [], 1024⟩) (fun i => S.length - i) 0 (by decide) (by simp) (by simp) ?_
  rintro i ⟨hi, hno⟩ ih
  by_cases h : i < S.length
  · have hs := b4 _ (List.getElem_mem h)
    have hyes := any_at shufLng S h
    have hnext := any_take shufLng S h hno
    generalize hx : S[i] = r at hs hyes hnext
    obtain ⟨p, o, u2⟩ := r
    obtain ⟨p1, p2, p3, p4⟩ := hs
    simp only at p1 p2 p3 p4
    by_cases c1 : 24 < p.length
    · have hy := hyes (by simp [shufLng, c1])
      simp (disch := omega) [h, wrap_i64, hx, shufV, wordsV, c1]
      exact Ends.v rfl (by simp [hy])
    by_cases c2 : 24 < o.length
    · have hy := hyes (by simp [shufLng, c2])
      simp (disch := omega) [h, wrap_i64, hx, shufV, wordsV, c1, c2]
      exact Ends.v rfl (by simp [hy])
    have e : shufLng (p, o, u2) = (p.any lngW || o.any slotLng) := by simp only [shufLng, c1, c2]; simp
    rw [e] at hyes hnext
    have hc1 := fok53 p p1 (fun w hw => (p2 w hw).1)
    have hc2 := fok40 o _ _ _ (fixF0 83) slotLng (fun s hs => fok83 s (p4 s hs)) p3
    simp only [wordsV] at hc1
    generalize p.any lngW = x1 at hc1 hyes hnext
    generalize o.any slotLng = x2 at hc2 hyes hnext
    simp (disch := omega) [h, wrap_i64, hx, shufV, wordsV, c1, c2]
    refine CallG.lent rfl rfl rfl rfl hc1 rfl ?_
    cases x1
    · simp (disch := omega) [wrap_i64, hx, shufV, wordsV]
      refine CallG.lent rfl rfl rfl rfl hc2 rfl ?_
      cases x2
      · simp (disch := omega) [wrap_i64]
        exact ih (i + 1) _ ⟨by omega, hnext rfl⟩ (by omega) (by simp)
      · simp (disch := omega) [wrap_i64]
        exact Ends.v rfl (by simp [hyes rfl])
    · simp (disch := omega) [wrap_i64]
      exact Ends.v rfl (by simp [hyes rfl])
  · have hiR : i = S.length := by omega
    subst hiR
    rw [List.take_length] at hno
    rw [any_end shufLng S hno]
    simp
    exact Ends.v rfl (by simp)

end Go.Proofs

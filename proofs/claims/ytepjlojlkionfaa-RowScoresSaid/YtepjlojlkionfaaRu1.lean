/- The walk. -/
import Derived.Test.YtepjlojlkionfaaRo9
import Derived.Test.YtepjlojlkionfaaProg
import Derived.KernelRfl
set_option linter.all false
set_option maxHeartbeats 2000000
namespace Go.Proofs
open Go Go.AM
attribute [local irreducible] Run Ends
/-- slices.IndexFunc[[]ablaut/api.Line,ablaut/api.Line] -/
def c117 : MC :=
  .seq (.reg false [.op .none 4 (.mv (.c (.w (.int .i64 0))))]) <|
  .seq (.seq (.reg false [.op .none 6 (.mv (.t 0)),
    .op .none 7 (.len false (.t 6)),
    .op .none 8 (.mv (.c (.w (.int .i64 0))))]) <|
  .block 0 <|
    .loop <|
      .seq (.reg false [.op .none 9 (.bin .lss (.t 8) (.t 7))]) <|
      .seq (.cond (.t 9)
        (.skip)
        (.exit 0)) <|
      .seq (.block 1 <|
        .seq (.reg false [.op .none 10 (.mv (.t 8)),
          .op .none 5 (.mv (.t 10))]) <|
        .seq (.reg false [.op .none 11 (.mv (.t 1)),
          .op .none 12 (.mv (.t 0)),
          .op .none 13 (.mv (.t 5)),
          .op .none 14 (.ia 2 (.t 12) (.t 13)),
          .op .none 15 (.ld true 2 (.t 14)),
          .call .none 16 (.t 11) [(.t 15)]]) <|
        .cond (.t 16)
          (.seq (.reg false [.op .none 17 (.mv (.t 5)),
            .op .none 4 (.mv (.t 17))]) <|
          .ret)
          (.skip)) <|
      .reg false [.op .none 18 (.bin .add (.t 8) (.c (.w (.int .i64 1)))),
        .op .none 8 (.mv (.t 18))]) <|
  .seq (.reg false [.op .none 4 (.mv (.c (.w (.int .i64 (-1)))))]) <|
  .ret
theorem k117 : FnCode Try.prog 117 [] 19 [4] c117 := ⟨Try.f117, Try.func117, fun xs W => Try.call117 xs W, by kernel_rfl, by kernel_rfl, by kernel_rfl⟩

/-- slices.ContainsFunc[[]ablaut/api.Line,ablaut/api.Line] -/
def c98 : MC :=
  .seq (.reg false [.op .none 4 (.mv (.c (.w (.bool false))))]) <|
  .seq (.reg false [.op .none 5 (.mv (.t 0)),
    .op .none 6 (.mv (.t 1)),
    .call .none 7 (.f 117) [(.t 5), (.t 6)],
    .op .none 8 (.bin .geq (.t 7) (.c (.w (.int .i64 0)))),
    .op .none 4 (.mv (.t 8))]) <|
  .ret
theorem k98 : FnCode Try.prog 98 [] 9 [4] c98 := ⟨Try.f98, Try.func98, fun xs W => Try.call98 xs W, by kernel_rfl, by kernel_rfl, by kernel_rfl⟩

/-- ablaut/row.sized$1 -/
def c99 : MC :=
  .seq (.reg false [.op .none 1 (.box false (.t 0)),
    .op .none 2 (.mv (.c (.w (.bool false))))]) <|
  .seq (.reg false [.op .none 3 (.fa 0 (.t 1)),
    .op .none 4 (.ld false 1 (.t 3)),
    .op .none 5 (.len false (.t 4)),
    .op .none 6 (.bin .gtr (.t 5) (.c (.w (.int .i64 200)))),
    .op .none 2 (.mv (.t 6))]) <|
  .ret
theorem k99 : FnCode Try.prog 99 [] 7 [2] c99 := ⟨Try.f99, Try.func99, fun xs W => Try.call99 xs W, by kernel_rfl, by kernel_rfl, by kernel_rfl⟩

/-- ablaut/row.unlike$1 -/
def c104 : MC :=
  .seq (.reg false [.op .none 1 (.box false (.t 0)),
    .op .none 2 (.mv (.c (.w (.bool false))))]) <|
  .seq (.reg false [.op .none 3 (.fa 0 (.t 1)),
    .op .none 4 (.ld false 1 (.t 3)),
    .op .none 5 (.len false (.t 4)),
    .op .none 6 (.fa 1 (.t 1)),
    .op .none 7 (.ld false 1 (.t 6)),
    .op .none 8 (.len false (.t 7)),
    .op .none 9 (.bin .neq (.t 5) (.t 8)),
    .op .none 2 (.mv (.t 9))]) <|
  .ret
theorem k104 : FnCode Try.prog 104 [] 10 [2] c104 := ⟨Try.f104, Try.func104, fun xs W => Try.call104 xs W, by kernel_rfl, by kernel_rfl, by kernel_rfl⟩

/-- ablaut/row.sized -/
def c69 : MC :=
  .seq (.reg false [.op .none 2 (.mv (.c (.w (.int .i64 0))))]) <|
  .seq (.seq (.reg false [.op .none 3 (.mv (.t 0)),
    .op .none 4 (.len false (.t 3)),
    .op .none 5 (.bin .gtr (.t 4) (.c (.w (.int .i64 200)))),
    .op .none 6 (.mv (.t 5)),
    .op (.some (6, false)) 7 (.mv (.t 0)),
    .call (.some (6, false)) 8 (.f 98) [(.t 7), (.f 99)],
    .op .none 9 (.pick (.t 6) (.c (.w (.bool true))) (.t 8))]) <|
  .cond (.t 9)
    (.seq (.reg false [.op .none 2 (.mv (.c (.w (.int .i64 3))))]) <|
    .ret)
    (.skip)) <|
  .seq (.reg false [.op .none 2 (.mv (.c (.w (.int .i64 0))))]) <|
  .ret
theorem k69 : FnCode Try.prog 69 [] 10 [2] c69 := ⟨Try.f69, Try.func69, fun xs W => Try.call69 xs W, by kernel_rfl, by kernel_rfl, by kernel_rfl⟩

/-- ablaut/row.unlike -/
def c73 : MC :=
  .seq (.reg false [.op .none 2 (.mv (.c (.w (.bool false))))]) <|
  .seq (.reg false [.op .none 3 (.mv (.t 0)),
    .call .none 4 (.f 98) [(.t 3), (.f 104)],
    .op .none 2 (.mv (.t 4))]) <|
  .ret
theorem k73 : FnCode Try.prog 73 [] 5 [2] c73 := ⟨Try.f73, Try.func73, fun xs W => Try.call73 xs W, by kernel_rfl, by kernel_rfl, by kernel_rfl⟩

/-- ablaut/row.tested -/
def c67 : MC :=
  .seq (.reg false [.op .none 2 (.box false (.t 0)),
    .op .none 4 (.mv (.c (.w (.int .i64 0))))]) <|
  .seq (.seq (.reg false [.op .none 7 (.ld true 6 (.t 2)),
    .call .none 8 (.f 22) [(.t 7)],
    .op .none 5 (.mv (.t 8))]) <|
  .seq (.reg false [.op .none 9 (.mv (.t 5)),
    .op .none 10 (.bin .neq (.t 9) (.c (.w (.int .i64 0))))]) <|
  .cond (.t 10)
    (.seq (.reg false [.op .none 11 (.mv (.t 5)),
      .op .none 4 (.mv (.t 11))]) <|
    .ret)
    (.skip)) <|
  .seq (.seq (.reg false [.op .none 12 (.mv (.t 1)),
    .call .none 13 (.f 69) [(.t 12)],
    .op .none 6 (.mv (.t 13))]) <|
  .seq (.reg false [.op .none 14 (.mv (.t 6)),
    .op .none 15 (.bin .neq (.t 14) (.c (.w (.int .i64 0))))]) <|
  .cond (.t 15)
    (.seq (.reg false [.op .none 16 (.mv (.t 6)),
      .op .none 4 (.mv (.t 16))]) <|
    .ret)
    (.skip)) <|
  .seq (.seq (.reg false [.op .none 17 (.mv (.t 1)),
    .call .none 18 (.f 73) [(.t 17)]]) <|
  .cond (.t 18)
    (.seq (.reg false [.op .none 4 (.mv (.c (.w (.int .i64 10))))]) <|
    .ret)
    (.skip)) <|
  .seq (.reg false [.op .none 4 (.mv (.c (.w (.int .i64 0))))]) <|
  .ret
theorem k67 : FnCode Try.prog 67 [] 19 [4] c67 := ⟨Try.f67, Try.func67, fun xs W => Try.call67 xs W, by kernel_rfl, by kernel_rfl, by kernel_rfl⟩

/-- ablaut/ablautref19.isLong -/
def c77 : MC :=
  .seq (.reg false [.op .none 2 (.mv (.c (.w (.bool false))))]) <|
  .seq (.seq (.reg false [.op .none 3 (.mv (.c (.w (.int .i64 0))))]) <|
  .block 0 <|
    .loop <|
      .seq (.seq (.reg false [.op .none 4 (.mv (.t 3)),
        .op .none 5 (.mv (.t 0)),
        .op .none 6 (.len false (.t 5)),
        .op .none 7 (.bin .lss (.t 4) (.t 6))]) <|
      .cond (.t 7)
        (.skip)
        (.exit 0)) <|
      .seq (.block 1 <|
        .seq (.reg false [.op .none 10 (.mv (.t 0)),
          .op .none 11 (.mv (.t 3)),
          .op .none 12 (.ia 2 (.t 10) (.t 11)),
          .op .none 13 (.fa 0 (.t 12)),
          .op .none 14 (.ld false 1 (.t 13)),
          .op .none 15 (.len false (.t 14)),
          .op .none 16 (.bin .gtr (.t 15) (.c (.w (.int .i64 200))))]) <|
        .cond (.t 16)
          (.seq (.reg false [.op .none 2 (.mv (.c (.w (.bool true))))]) <|
          .ret)
          (.skip)) <|
      .reg false [.op .none 8 (.mv (.t 3)),
        .op .none 9 (.bin .add (.t 8) (.c (.w (.int .i64 1)))),
        .op .none 3 (.mv (.t 9))]) <|
  .seq (.reg false [.op .none 17 (.mv (.t 0)),
    .op .none 18 (.len false (.t 17)),
    .op .none 19 (.bin .gtr (.t 18) (.c (.w (.int .i64 200)))),
    .op .none 2 (.mv (.t 19))]) <|
  .ret
theorem k77 : FnCode Try.prog 77 [] 20 [2] c77 := ⟨Try.f77, Try.func77, fun xs W => Try.call77 xs W, by kernel_rfl, by kernel_rfl, by kernel_rfl⟩

/-- ablaut/ablautref19.isUnfit -/
def c79 : MC :=
  .seq (.reg false [.op .none 2 (.mv (.c (.w (.bool false))))]) <|
  .seq (.seq (.reg false [.op .none 3 (.mv (.c (.w (.int .i64 0))))]) <|
  .block 0 <|
    .loop <|
      .seq (.seq (.reg false [.op .none 4 (.mv (.t 3)),
        .op .none 5 (.mv (.t 0)),
        .op .none 6 (.len false (.t 5)),
        .op .none 7 (.bin .lss (.t 4) (.t 6))]) <|
      .cond (.t 7)
        (.skip)
        (.exit 0)) <|
      .seq (.block 1 <|
        .seq (.reg true [.op .none 10 (.mv (.t 0)),
          .op .none 11 (.mv (.t 3)),
          .op .none 12 (.ia 2 (.t 10) (.t 11)),
          .op .none 13 (.fa 0 (.t 12)),
          .op .none 14 (.ld false 1 (.t 13)),
          .op .none 15 (.len false (.t 14)),
          .op .none 16 (.mv (.t 0)),
          .op .none 17 (.mv (.t 3)),
          .op .none 18 (.ia 2 (.t 16) (.t 17)),
          .op .none 19 (.fa 1 (.t 18)),
          .op .none 20 (.ld false 1 (.t 19)),
          .op .none 21 (.len false (.t 20)),
          .op .none 22 (.bin .neq (.t 15) (.t 21))]) <|
        .cond (.t 22)
          (.seq (.reg false [.op .none 2 (.mv (.c (.w (.bool true))))]) <|
          .ret)
          (.skip)) <|
      .reg false [.op .none 8 (.mv (.t 3)),
        .op .none 9 (.bin .add (.t 8) (.c (.w (.int .i64 1)))),
        .op .none 3 (.mv (.t 9))]) <|
  .seq (.reg false [.op .none 2 (.mv (.c (.w (.bool false))))]) <|
  .ret
theorem k79 : FnCode Try.prog 79 [] 23 [2] c79 := ⟨Try.f79, Try.func79, fun xs W => Try.call79 xs W, by kernel_rfl, by kernel_rfl, by kernel_rfl⟩

/-- ablaut/ablautref19.scored -/
def c68 : MC :=
  .seq (.reg false [.op .none 2 (.box false (.t 0)),
    .op .none 4 (.mv (.c (.w (.int .i64 0))))]) <|
  .seq (.seq (.reg false [.op .none 6 (.ld true 6 (.t 2)),
    .call .none 7 (.f 23) [(.t 6)],
    .op .none 5 (.mv (.t 7))]) <|
  .seq (.reg false [.op .none 8 (.mv (.t 5)),
    .op .none 9 (.bin .neq (.t 8) (.c (.w (.int .i64 0))))]) <|
  .cond (.t 9)
    (.seq (.reg false [.op .none 10 (.mv (.t 5)),
      .op .none 4 (.mv (.t 10))]) <|
    .ret)
    (.skip)) <|
  .seq (.seq (.reg false [.op .none 11 (.mv (.t 1)),
    .call .none 12 (.f 77) [(.t 11)]]) <|
  .cond (.t 12)
    (.seq (.reg false [.op .none 4 (.mv (.c (.w (.int .i64 3))))]) <|
    .ret)
    (.skip)) <|
  .seq (.seq (.reg false [.op .none 13 (.mv (.t 1)),
    .call .none 14 (.f 79) [(.t 13)]]) <|
  .cond (.t 14)
    (.seq (.reg false [.op .none 4 (.mv (.c (.w (.int .i64 10))))]) <|
    .ret)
    (.skip)) <|
  .seq (.reg false [.op .none 4 (.mv (.c (.w (.int .i64 0))))]) <|
  .ret
theorem k68 : FnCode Try.prog 68 [] 15 [4] c68 := ⟨Try.f68, Try.func68, fun xs W => Try.call68 xs W, by kernel_rfl, by kernel_rfl, by kernel_rfl⟩

/-- ablaut/ablautlaw19.long -/
def c29 : MC :=
  .seq (.reg false [.op .none 2 (.mv (.c (.w (.bool false))))]) <|
  .seq (.reg false [.op .none 5 (.mv (.t 0)),
    .op .none 6 (.len false (.t 5)),
    .op .none 3 (.mv (.t 6))]) <|
  .seq (.seq (.reg false [.op .none 4 (.mv (.c (.w (.int .i64 0))))]) <|
  .block 0 <|
    .loop <|
      .seq (.seq (.reg false [.op .none 7 (.mv (.t 4)),
        .op .none 8 (.mv (.t 0)),
        .op .none 9 (.len false (.t 8)),
        .op .none 10 (.bin .lss (.t 7) (.t 9)),
        .op .none 11 (.mv (.t 10)),
        .op (.some (11, true)) 12 (.mv (.t 3)),
        .op (.some (11, true)) 13 (.bin .leq (.t 12) (.c (.w (.int .i64 200000)))),
        .op .none 14 (.pick (.t 11) (.t 13) (.c (.w (.bool false))))]) <|
      .cond (.t 14)
        (.skip)
        (.exit 0)) <|
      .seq (.block 1 <|
        .reg true [.op .none 17 (.mv (.t 3)),
          .op .none 18 (.mv (.t 0)),
          .op .none 19 (.mv (.t 4)),
          .op .none 20 (.ia 2 (.t 18) (.t 19)),
          .op .none 21 (.fa 0 (.t 20)),
          .op .none 22 (.ld false 1 (.t 21)),
          .call .none 23 (.f 13) [(.t 22)],
          .op .none 24 (.mv (.t 0)),
          .op .none 25 (.mv (.t 4)),
          .op .none 26 (.ia 2 (.t 24) (.t 25)),
          .op .none 27 (.fa 1 (.t 26)),
          .op .none 28 (.ld false 1 (.t 27)),
          .call .none 29 (.f 13) [(.t 28)],
          .op .none 30 (.bin .add (.t 23) (.t 29)),
          .op .none 31 (.bin .add (.t 17) (.t 30)),
          .op .none 3 (.mv (.t 31))]) <|
      .reg false [.op .none 15 (.mv (.t 4)),
        .op .none 16 (.bin .add (.t 15) (.c (.w (.int .i64 1)))),
        .op .none 4 (.mv (.t 16))]) <|
  .seq (.reg false [.op .none 32 (.mv (.t 3)),
    .op .none 33 (.bin .gtr (.t 32) (.c (.w (.int .i64 200000)))),
    .op .none 2 (.mv (.t 33))]) <|
  .ret
theorem k29 : FnCode Try.prog 29 [] 34 [2] c29 := ⟨Try.f29, Try.func29, fun xs W => Try.call29 xs W, by kernel_rfl, by kernel_rfl, by kernel_rfl⟩

abbrev LineT : Type := List Bs × List Bs × Unit
def lineV : LineT → PV := fun (w, g, _) => .st [.word w, .word g]
def linesV (l : List LineT) : PV := .sl 2 (l.map lineV)
def lngLn (x : LineT) : Bool := decide (200 < x.1.length)
def unlLn (x : LineT) : Bool := decide (x.1.length ≠ x.2.1.length)
def tstF (t : TagT) (l : List LineT) : Int := if valF t ≠ 0 then valF t else if 200 < l.length then 3 else if l.any lngLn = true then 3 else if l.any unlLn = true then 10 else 0
structure linesS (l : List LineT) : Prop where
  n : l.length ≤ 200000000000000
  w : ∀ x ∈ l, wordS x.1 ∧ wordS x.2.1
theorem fok117 (l : List LineT) (u : AV) (f : Nat) (caps : List AV) (hu : Fix u f caps) (p : LineT → Bool) (hf : ∀ x ∈ l, FOk Try.prog f (.v (lineV x) :: caps) [] (.B (p x)) []) (hl : l.length ≤ 200000000000000) :
    FOk Try.prog 117 [.v (.sl 2 (l.map lineV)), u] [] (.I (idxF p l 0)) [] := by
  have hm := hu.men
  have hcv := hu.conv
  have hpa := hu.pass
  have hfn := hu.fn
  refine FOk.val k117 (by simp) (by simp; intro k h; exact absurd h (hm k)) (by decide) ?_
  simp [c117]
  refine Run.loopA (ι := Nat) [] (fun i => i ≤ l.length ∧ idxF p (l.drop i) i = idxF p l 0) (fun i => ⟨[(0, .v (.sl 2 (l.map lineV))), (1, u), (7, .I l.length), (8, .I i)], [], 1024⟩) (fun i => l.length - i) 0 (by decide) (by simp [hcv]) ⟨by omega, by simp⟩ ?_
  rintro i ⟨hi, hall⟩ ih
  by_cases h : i < l.length
  · rw [drop_at h] at hall
    simp only [idxF] at hall
    have hcall := hf l[i] (List.getElem_mem h)
    generalize hx : l[i] = x at hcall hall
    obtain ⟨xw, xc, xu⟩ := x
    simp (disch := omega) [h, wrap_i64, hx, lineV]
    refine CallG.lent rfl hfn rfl (passAs_cons rfl (hu.passC _ _)) hcall rfl ?_
    simp (disch := omega) [wrap_i64]
    refine ⟨fun hp => ?_, fun hp => ?_⟩
    · simp only [hp, if_true] at hall
      exact Ends.v rfl (by simp [← hall])
    · simp only [hp] at hall
      exact ih (i + 1) _ ⟨by omega, by simpa using hall⟩ (by omega) (by simp [hcv])
  · rw [drop_no h] at hall
    simp [h]
    exact Ends.v rfl (by simp [idxF, ← hall])
theorem fok98 (l : List LineT) (u : AV) (f : Nat) (caps : List AV) (hu : Fix u f caps) (p : LineT → Bool) (hf : ∀ x ∈ l, FOk Try.prog f (.v (lineV x) :: caps) [] (.B (p x)) []) (hl : l.length ≤ 200000000000000) :
    FOk Try.prog 98 [.v (.sl 2 (l.map lineV)), u] [] (.B (l.any p)) [] := by
  have hm := hu.men
  have hpa := hu.pass
  refine FOk.val k98 (by simp) (by simp; intro k h; exact absurd h (hm k)) (by decide) ?_
  simp [c98]
  refine CallG.lent rfl rfl rfl (passAs_cons rfl (passAs_cons (hpa _ _) rfl)) (fok117 l u f caps hu p hf hl) rfl ?_
  simp [idxF_ge]
  exact Ends.v rfl (by simp)
theorem fok99 (x : LineT) : FOk Try.prog 99 [.v (lineV x)] [] (.B (lngLn x)) [] := by
  obtain ⟨w, g, u⟩ := x
  refine FOk.val k99 (by simp) (by simp) (by decide) ?_
  simp [c99, lineV]
  exact Ends.v rfl (by simp [lngLn])
theorem fok104 (x : LineT) : FOk Try.prog 104 [.v (lineV x)] [] (.B (unlLn x)) [] := by
  obtain ⟨w, g, u⟩ := x
  refine FOk.val k104 (by simp) (by simp) (by decide) ?_
  simp [c104, lineV]
  exact Ends.v rfl (by simp [unlLn]; omega)
theorem fok69 (l : List LineT) (hl : l.length ≤ 200000000000000) : FOk Try.prog 69 [.v (linesV l)] [] (.I (if 200 < l.length then 3 else if l.any lngLn = true then 3 else 0)) [] := by
  have h1 := fok98 l _ _ _ (fixF0 99) lngLn (fun x _ => fok99 x) hl
  refine FOk.val k69 (by simp) (by simp) (by decide) ?_
  simp [c69, linesV]
  by_cases h : 200 < l.length
  · have h' : ¬ l.length ≤ 200 := by omega
    simp [h, h']
    exact Ends.v rfl (by simp [h])
  · have h' : l.length ≤ 200 := by omega
    simp [h, h']
    refine CallG.lent rfl rfl rfl rfl h1 rfl ?_
    cases l.any lngLn
    · simp
      exact Ends.v rfl (by simp)
    · simp
      exact Ends.v rfl (by simp)
theorem fok73 (l : List LineT) (hl : l.length ≤ 200000000000000) : FOk Try.prog 73 [.v (linesV l)] [] (.B (l.any unlLn)) [] := by
  have h1 := fok98 l _ _ _ (fixF0 104) unlLn (fun x _ => fok104 x) hl
  refine FOk.val k73 (by simp) (by simp) (by decide) ?_
  simp [c73, linesV]
  refine CallG.lent rfl rfl rfl rfl h1 rfl ?_
  simp
  exact Ends.v rfl (by simp)
theorem fok67 (t : TagT) (l : List LineT) (ht : tagS t) (hl : l.length ≤ 200000000000000) : FOk Try.prog 67 [.v (tagV t), .v (linesV l)] [] (.I (tstF t l)) [] := by
  have h1 := fok22 t ht
  have h2 := fok69 l hl
  have h3 := fok73 l hl
  have htc2 : tagV t = .st [.word t.1, intsV t.2.1, intsV t.2.2.1, .sl 1 (t.2.2.2.1.map intsV), .sl 2 (t.2.2.2.2.1.map worthV), intsV t.2.2.2.2.2.1] := by
    obtain ⟨G, Fi, Z, P, W, U, uu⟩ := t; rfl
  unfold tstF
  generalize valF t = v at h1 ⊢
  rw [htc2] at h1 ⊢
  refine FOk.val k67 (by simp) (by simp) (by decide) ?_
  simp [c67]
  refine CallG.lent rfl rfl rfl rfl h1 rfl ?_
  by_cases hv : v = 0
  case neg =>
    simp [hv]
    exact Ends.v rfl (by simp)
  subst hv
  simp
  refine CallG.lent rfl rfl rfl rfl h2 rfl ?_
  by_cases q1 : 200 < l.length
  · have q1' : ¬ l.length ≤ 200 := by omega
    simp [q1, q1']
    exact Ends.v rfl (by simp [q1])
  have q1' : l.length ≤ 200 := by omega
  cases q2 : l.any lngLn
  case true =>
    simp [q1, q1']
    exact Ends.v rfl (by simp [q1])
  simp [q1, q1']
  refine CallG.lent rfl rfl rfl rfl h3 rfl ?_
  cases l.any unlLn
  · simp
    exact Ends.v rfl (by simp)
  · simp
    exact Ends.v rfl (by simp)
theorem fok77 (l : List LineT) (hl : l.length ≤ 200000000000000) : FOk Try.prog 77 [.v (linesV l)] [] (.B (l.any lngLn || decide (200 < l.length))) [] := by
  refine FOk.val k77 (by simp) (by simp) (by decide) ?_
  simp [c77, linesV]
  refine Run.loopA (ι := Nat) [] (fun i => i ≤ l.length ∧ (l.drop i).any lngLn = l.any lngLn) (fun i => ⟨[(0, .v (.sl 2 (l.map lineV))), (3, .I i)], [], 1024⟩) (fun i => l.length - i) 0 (by decide) (by simp) ⟨by omega, by simp⟩ ?_
  rintro i ⟨hi, hall⟩ ih
  by_cases h : i < l.length
  · rw [drop_at h, List.any_cons] at hall
    generalize hx : l[i] = x at hall
    obtain ⟨w, g, u⟩ := x
    simp only [lngLn] at hall
    by_cases q : 200 < w.length
    · simp (disch := omega) [h, wrap_i64, hx, lineV, q]
      rw [decide_eq_true q, Bool.true_or] at hall
      exact Ends.v rfl (by simp [lngLn, ← hall])
    · simp (disch := omega) [h, wrap_i64, hx, lineV, q]
      rw [decide_eq_false q, Bool.false_or] at hall
      exact ih (i + 1) _ ⟨by omega, hall⟩ (by omega) (by simp)
  · rw [drop_no h] at hall
    simp only [List.any_nil] at hall
    simp [h]
    exact Ends.v rfl (by simp [← hall])
theorem fok79 (l : List LineT) (hl : l.length ≤ 200000000000000) : FOk Try.prog 79 [.v (linesV l)] [] (.B (l.any unlLn)) [] := by
  refine FOk.val k79 (by simp) (by simp) (by decide) ?_
  generalize hres : l.any unlLn = res
  simp [c79, linesV]
  refine Run.loopA (ι := Nat) [] (fun i => i ≤ l.length ∧ (l.drop i).any unlLn = res) (fun i => ⟨[(0, .v (.sl 2 (l.map lineV))), (3, .I i)], [], 1024⟩) (fun i => l.length - i) 0 (by decide) (by simp) ⟨by omega, by simpa using hres⟩ ?_
  rintro i ⟨hi, hall⟩ ih
  by_cases h : i < l.length
  · rw [drop_at h, List.any_cons] at hall
    generalize hx : l[i] = x at hall
    obtain ⟨w, g, u⟩ := x
    simp only [unlLn] at hall
    by_cases q : w.length = g.length
    · have q' : (w.length : Int) = g.length := by omega
      simp (disch := omega) [h, wrap_i64, hx, lineV, q']
      rw [decide_eq_false (by simpa using q), Bool.false_or] at hall
      exact ih (i + 1) _ ⟨by omega, hall⟩ (by omega) (by simp)
    · have q' : ¬ (w.length : Int) = g.length := by omega
      simp (disch := omega) [h, wrap_i64, hx, lineV, q']
      rw [decide_eq_true (by simpa using q), Bool.true_or] at hall
      subst hall
      exact Ends.v rfl (by simp)
  · rw [drop_no h] at hall
    simp only [List.any_nil] at hall
    simp [h]
    exact Ends.v rfl (by simp [← hall])
theorem fok68 (t : TagT) (l : List LineT) (ht : tagS t) (hl : l.length ≤ 200000000000000) : FOk Try.prog 68 [.v (tagV t), .v (linesV l)] [] (.I (tstF t l)) [] := by
  have h1 := fok23 t ht
  have h2 := fok77 l hl
  have h3 := fok79 l hl
  have htc2 : tagV t = .st [.word t.1, intsV t.2.1, intsV t.2.2.1, .sl 1 (t.2.2.2.1.map intsV), .sl 2 (t.2.2.2.2.1.map worthV), intsV t.2.2.2.2.2.1] := by
    obtain ⟨G, Fi, Z, P, W, U, uu⟩ := t; rfl
  unfold tstF
  generalize valF t = v at h1 ⊢
  rw [htc2] at h1 ⊢
  refine FOk.val k68 (by simp) (by simp) (by decide) ?_
  simp [c68]
  refine CallG.lent rfl rfl rfl rfl h1 rfl ?_
  by_cases hv : v = 0
  case neg =>
    simp [hv]
    exact Ends.v rfl (by simp)
  subst hv
  simp
  refine CallG.lent rfl rfl rfl rfl h2 rfl ?_
  by_cases q1 : 200 < l.length
  · have q1' : ¬ l.length ≤ 200 := by omega
    simp [q1, q1']
    exact Ends.v rfl (by simp [q1])
  have q1' : l.length ≤ 200 := by omega
  cases q2 : l.any lngLn
  case true =>
    simp [q1, q1']
    exact Ends.v rfl (by simp [q1])
  simp [q1, q1']
  refine CallG.lent rfl rfl rfl rfl h3 rfl ?_
  cases l.any unlLn
  · simp
    exact Ends.v rfl (by simp)
  · simp
    exact Ends.v rfl (by simp)
def lnL : List LineT → Int → Int
  | [], n => n
  | x :: l, n => if n ≤ 200000 then lnL l (n + (txF x.1 + txF x.2.1)) else n
def longF (l : List LineT) : Bool := decide (200000 < lnL l l.length)
theorem fok29 (l : List LineT) (hl : linesS l) : FOk Try.prog 29 [.v (linesV l)] [] (.B (longF l)) [] := by
  obtain ⟨h1, h2⟩ := hl
  refine FOk.val k29 (by simp) (by simp) (by decide) ?_
  simp only [longF]
  simp [c29, linesV]
  generalize hres : lnL l l.length = res
  refine Run.loopA (ι := Nat × Int) [] (fun q => q.1 ≤ l.length ∧ 0 ≤ q.2 ∧ q.2 ≤ 3000000000000000 ∧ lnL (l.drop q.1) q.2 = res) (fun q => ⟨[(0, .v (.sl 2 (l.map lineV))), (3, .I q.2), (4, .I q.1)], [], 1024⟩) (fun q => l.length - q.1) (0, l.length) (by decide) (by simp) ⟨by simp, by simp, by simp; omega, by simpa using hres⟩ ?_
  rintro ⟨i, n⟩ ⟨hi, n0, n1, hall⟩ ih
  simp only at hi n0 n1 hall ih
  by_cases h : i < l.length
  · rw [drop_at h] at hall
    simp only [lnL] at hall
    obtain ⟨g1, g2⟩ := h2 _ (List.getElem_mem h)
    have k1 := fok13 _ g1
    have k2 := fok13 _ g2
    have b1 := txL_rng _ l[i].1.length (by omega) (by have := g1.1; omega) g1.2
    have b2 := txL_rng _ l[i].2.1.length (by omega) (by have := g2.1; omega) g2.2
    change 0 ≤ txF l[i].1 ∧ txF l[i].1 ≤ 900000000000000 at b1
    change 0 ≤ txF l[i].2.1 ∧ txF l[i].2.1 ≤ 900000000000000 at b2
    generalize hx : l[i] = x at k1 k2 b1 b2 hall
    obtain ⟨w, g, u⟩ := x
    simp only at k1 k2 b1 b2 hall
    generalize txF w = x1 at k1 b1 hall
    generalize txF g = x2 at k2 b2 hall
    simp only [PV.word] at k1 k2
    by_cases hn : n ≤ 200000
    · rw [if_pos hn] at hall
      simp (disch := omega) [h, wrap_i64, hn, hx, lineV]
      refine CallG.lent rfl rfl rfl rfl k1 rfl ?_
      simp (disch := omega) [h, wrap_i64, hx, lineV]
      refine CallG.lent rfl rfl rfl rfl k2 rfl ?_
      simp (disch := omega) [wrap_i64]
      exact ih (i + 1, n + (x1 + x2)) _ ⟨by simp; omega, by simp; omega, by simp; omega, hall⟩ (by simp; omega) (by simp)
    · rw [if_neg hn] at hall
      subst hall
      simp (disch := omega) [h, wrap_i64, hn]
      exact Ends.v rfl (by simp)
  · rw [drop_no h] at hall
    simp only [lnL] at hall
    subst hall
    simp [h]
    exact Ends.v rfl (by simp)

end Go.Proofs

/- The walk. -/
import Derived.Test.YtepjlojlkionfaaTr0
import Derived.Test.YtepjlojlkionfaaProg
import Derived.KernelRfl
set_option linter.all false
set_option maxHeartbeats 2000000
namespace Go.Proofs
open Go Go.AM
attribute [local irreducible] Run Ends
/-- ablaut/ablautlaw19.texts -/
def c13 : MC :=
  .seq (.reg false [.op .none 2 (.mv (.c (.w (.int .i64 0))))]) <|
  .seq (.reg false [.op .none 5 (.mv (.t 0)),
    .op .none 6 (.len false (.t 5)),
    .op .none 3 (.mv (.t 6))]) <|
  .seq (.seq (.reg false [.op .none 4 (.mv (.c (.w (.int .i64 0))))]) <|
  .block 0 <|
    .loop <|
      .seq (.seq (.reg false [.op .none 7 (.mv (.t 4)),
        .op .none 8 (.mv (.t 0)),
        .op .none 9 (.len false (.t 8)),
        .op .none 10 (.bin .lss (.t 7) (.t 9)),
        .op .none 11 (.mv (.t 10)),
        .op (.some (11, true)) 12 (.mv (.t 3)),
        .op (.some (11, true)) 13 (.bin .leq (.t 12) (.c (.w (.int .i64 200000)))),
        .op .none 14 (.pick (.t 11) (.t 13) (.c (.w (.bool false))))]) <|
      .cond (.t 14)
        (.skip)
        (.exit 0)) <|
      .seq (.block 1 <|
        .reg false [.op .none 17 (.mv (.t 3)),
          .op .none 18 (.mv (.t 0)),
          .op .none 19 (.mv (.t 4)),
          .op .none 20 (.ia 1 (.t 18) (.t 19)),
          .op .none 21 (.ld false 1 (.t 20)),
          .op .none 22 (.len true (.t 21)),
          .op .none 23 (.bin .add (.t 17) (.t 22)),
          .op .none 3 (.mv (.t 23))]) <|
      .reg false [.op .none 15 (.mv (.t 4)),
        .op .none 16 (.bin .add (.t 15) (.c (.w (.int .i64 1)))),
        .op .none 4 (.mv (.t 16))]) <|
  .seq (.reg false [.op .none 24 (.mv (.t 3)),
    .op .none 2 (.mv (.t 24))]) <|
  .ret
theorem k13 : FnCode Try.prog 13 [] 25 [2] c13 := ⟨Try.f13, Try.func13, fun xs W => Try.call13 xs W, by kernel_rfl, by kernel_rfl, by kernel_rfl⟩

/-- slices.IndexFunc[[]ablaut/api.Worth,ablaut/api.Worth] -/
def c92 : MC :=
  .seq (.reg false [.op .none 4 (.mv (.c (.w (.int .i64 0))))]) <|
  .seq (.seq (.reg false [.op .none 6 (.mv (.t 0)),
    .op .none 7 (.len false (.t 6)),
    .op .none 8 (.mv (.c (.w (.int .i64 0))))]) <|
  .block 0 <|
    .loop <|
      .seq (.reg false [.op .none 9 (.bin .lss (.t 8) (.t 7))]) <|
      .seq (.cond (.t 9)
        (.skip)
        (.exit 0)) <|
      .seq (.block 1 <|
        .seq (.reg false [.op .none 10 (.mv (.t 8)),
          .op .none 5 (.mv (.t 10))]) <|
        .seq (.reg false [.op .none 11 (.mv (.t 1)),
          .op .none 12 (.mv (.t 0)),
          .op .none 13 (.mv (.t 5)),
          .op .none 14 (.ia 2 (.t 12) (.t 13)),
          .op .none 15 (.ld true 2 (.t 14)),
          .call .none 16 (.t 11) [(.t 15)]]) <|
        .cond (.t 16)
          (.seq (.reg false [.op .none 17 (.mv (.t 5)),
            .op .none 4 (.mv (.t 17))]) <|
          .ret)
          (.skip)) <|
      .reg false [.op .none 18 (.bin .add (.t 8) (.c (.w (.int .i64 1)))),
        .op .none 8 (.mv (.t 18))]) <|
  .seq (.reg false [.op .none 4 (.mv (.c (.w (.int .i64 (-1)))))]) <|
  .ret
theorem k92 : FnCode Try.prog 92 [] 19 [4] c92 := ⟨Try.f92, Try.func92, fun xs W => Try.call92 xs W, by kernel_rfl, by kernel_rfl, by kernel_rfl⟩

/-- slices.ContainsFunc[[]ablaut/api.Worth,ablaut/api.Worth] -/
def c54 : MC :=
  .seq (.reg false [.op .none 4 (.mv (.c (.w (.bool false))))]) <|
  .seq (.reg false [.op .none 5 (.mv (.t 0)),
    .op .none 6 (.mv (.t 1)),
    .call .none 7 (.f 92) [(.t 5), (.t 6)],
    .op .none 8 (.bin .geq (.t 7) (.c (.w (.int .i64 0)))),
    .op .none 4 (.mv (.t 8))]) <|
  .ret
theorem k54 : FnCode Try.prog 54 [] 9 [4] c54 := ⟨Try.f54, Try.func54, fun xs W => Try.call54 xs W, by kernel_rfl, by kernel_rfl, by kernel_rfl⟩

/-- ablaut/row.Validate$1 -/
def c55 : MC :=
  .seq (.reg false [.op .none 1 (.box false (.t 0)),
    .op .none 2 (.mv (.c (.w (.bool false))))]) <|
  .seq (.reg false [.op .none 3 (.fa 0 (.t 1)),
    .op .none 4 (.ld false 1 (.t 3)),
    .op .none 5 (.len true (.t 4)),
    .op .none 6 (.bin .gtr (.t 5) (.c (.w (.int .i64 400)))),
    .op .none 2 (.mv (.t 6))]) <|
  .ret
theorem k55 : FnCode Try.prog 55 [] 7 [2] c55 := ⟨Try.f55, Try.func55, fun xs W => Try.call55 xs W, by kernel_rfl, by kernel_rfl, by kernel_rfl⟩

/-- ablaut/row.isName -/
def c56 : MC :=
  .seq (.reg false [.op .none 2 (.mv (.c (.w (.bool false))))]) <|
  .seq (.seq (.reg false [.op .none 5 (.mv (.t 0)),
    .op .none 6 (.len true (.t 5)),
    .op .none 7 (.mv (.c (.w (.int .i64 0))))]) <|
  .block 0 <|
    .loop <|
      .seq (.reg false [.op .none 8 (.bin .lss (.t 7) (.t 6))]) <|
      .seq (.cond (.t 8)
        (.skip)
        (.exit 0)) <|
      .seq (.block 1 <|
        .seq (.reg false [.op .none 9 (.mv (.t 7)),
          .op .none 3 (.mv (.t 9))]) <|
        .seq (.reg false [.op .none 10 (.mv (.t 0)),
          .op .none 11 (.mv (.t 3)),
          .op .none 12 (.six (.t 10) (.t 11)),
          .op .none 13 (.bin .or (.t 12) (.c (.w (.int .u8 32)))),
          .op .none 4 (.mv (.t 13))]) <|
        .seq (.reg false [.op .none 14 (.mv (.t 4)),
          .op .none 15 (.bin .lss (.t 14) (.c (.w (.int .u8 97)))),
          .op .none 16 (.mv (.t 15)),
          .op (.some (16, false)) 17 (.mv (.t 4)),
          .op (.some (16, false)) 18 (.bin .gtr (.t 17) (.c (.w (.int .u8 122)))),
          .op .none 19 (.pick (.t 16) (.c (.w (.bool true))) (.t 18)),
          .op .none 20 (.mv (.t 19)),
          .op (.some (20, true)) 21 (.mv (.t 3)),
          .op (.some (20, true)) 22 (.bin .eql (.t 21) (.c (.w (.int .i64 0)))),
          .op (.some (20, true)) 23 (.mv (.t 22)),
          .op (.some (23, false)) 24 (.mv (.t 0)),
          .op (.some (23, false)) 25 (.mv (.t 3)),
          .op (.some (23, false)) 26 (.six (.t 24) (.t 25)),
          .op (.some (23, false)) 27 (.bin .lss (.t 26) (.c (.w (.int .u8 48)))),
          .op (.some (20, true)) 28 (.pick (.t 23) (.c (.w (.bool true))) (.t 27)),
          .op (.some (20, true)) 29 (.mv (.t 28)),
          .op (.some (29, false)) 30 (.mv (.t 0)),
          .op (.some (29, false)) 31 (.mv (.t 3)),
          .op (.some (29, false)) 32 (.six (.t 30) (.t 31)),
          .op (.some (29, false)) 33 (.bin .gtr (.t 32) (.c (.w (.int .u8 57)))),
          .op (.some (20, true)) 34 (.pick (.t 29) (.c (.w (.bool true))) (.t 33)),
          .op .none 35 (.pick (.t 20) (.t 34) (.c (.w (.bool false))))]) <|
        .cond (.t 35)
          (.seq (.reg false [.op .none 2 (.mv (.c (.w (.bool false))))]) <|
          .ret)
          (.skip)) <|
      .reg false [.op .none 36 (.bin .add (.t 7) (.c (.w (.int .i64 1)))),
        .op .none 7 (.mv (.t 36))]) <|
  .seq (.reg false [.op .none 37 (.mv (.t 0)),
    .op .none 38 (.bin .neq (.t 37) (.c (.w (.string ⟨#[]⟩)))),
    .op .none 39 (.mv (.t 38)),
    .op (.some (39, true)) 40 (.mv (.t 0)),
    .op (.some (39, true)) 41 (.len true (.t 40)),
    .op (.some (39, true)) 42 (.bin .leq (.t 41) (.c (.w (.int .i64 12)))),
    .op .none 43 (.pick (.t 39) (.t 42) (.c (.w (.bool false)))),
    .op .none 2 (.mv (.t 43))]) <|
  .ret
theorem k56 : FnCode Try.prog 56 [] 44 [2] c56 := ⟨Try.f56, Try.func56, fun xs W => Try.call56 xs W, by kernel_rfl, by kernel_rfl, by kernel_rfl⟩

/-- slices.IndexFunc[[]int,int] -/
def c116 : MC :=
  .seq (.reg false [.op .none 4 (.mv (.c (.w (.int .i64 0))))]) <|
  .seq (.seq (.reg false [.op .none 6 (.mv (.t 0)),
    .op .none 7 (.len false (.t 6)),
    .op .none 8 (.mv (.c (.w (.int .i64 0))))]) <|
  .block 0 <|
    .loop <|
      .seq (.reg false [.op .none 9 (.bin .lss (.t 8) (.t 7))]) <|
      .seq (.cond (.t 9)
        (.skip)
        (.exit 0)) <|
      .seq (.block 1 <|
        .seq (.reg false [.op .none 10 (.mv (.t 8)),
          .op .none 5 (.mv (.t 10))]) <|
        .seq (.reg false [.op .none 11 (.mv (.t 1)),
          .op .none 12 (.mv (.t 0)),
          .op .none 13 (.mv (.t 5)),
          .op .none 14 (.ia 1 (.t 12) (.t 13)),
          .op .none 15 (.ld false 1 (.t 14)),
          .call .none 16 (.t 11) [(.t 15)]]) <|
        .cond (.t 16)
          (.seq (.reg false [.op .none 17 (.mv (.t 5)),
            .op .none 4 (.mv (.t 17))]) <|
          .ret)
          (.skip)) <|
      .reg false [.op .none 18 (.bin .add (.t 8) (.c (.w (.int .i64 1)))),
        .op .none 8 (.mv (.t 18))]) <|
  .seq (.reg false [.op .none 4 (.mv (.c (.w (.int .i64 (-1)))))]) <|
  .ret
theorem k116 : FnCode Try.prog 116 [] 19 [4] c116 := ⟨Try.f116, Try.func116, fun xs W => Try.call116 xs W, by kernel_rfl, by kernel_rfl, by kernel_rfl⟩

/-- slices.ContainsFunc[[]int,int] -/
def c93 : MC :=
  .seq (.reg false [.op .none 4 (.mv (.c (.w (.bool false))))]) <|
  .seq (.reg false [.op .none 5 (.mv (.t 0)),
    .op .none 6 (.mv (.t 1)),
    .call .none 7 (.f 116) [(.t 5), (.t 6)],
    .op .none 8 (.bin .geq (.t 7) (.c (.w (.int .i64 0)))),
    .op .none 4 (.mv (.t 8))]) <|
  .ret
theorem k93 : FnCode Try.prog 93 [] 9 [4] c93 := ⟨Try.f93, Try.func93, fun xs W => Try.call93 xs W, by kernel_rfl, by kernel_rfl, by kernel_rfl⟩

/-- ablaut/row.isCosts -/
def c57 : MC :=
  .seq (.reg false [.op .none 5 (.box false (.t 2)),
    .op .none 6 (.mv (.c (.w (.bool false))))]) <|
  .seq (.reg false [.op .none 7 (.mv (.t 0)),
    .op .none 8 (.len false (.t 7)),
    .op .none 9 (.mv (.t 1)),
    .op .none 10 (.bin .eql (.t 8) (.t 9)),
    .op .none 11 (.mv (.t 10)),
    .op (.some (11, true)) 12 (.mv (.t 0)),
    .op (.some (11, true)) 13 (.mkf 94 [(.t 5)]),
    .call (.some (11, true)) 14 (.f 93) [(.t 12), (.t 13)],
    .op (.some (11, true)) 15 (.un .not (.t 14)),
    .op .none 16 (.pick (.t 11) (.t 15) (.c (.w (.bool false)))),
    .op .none 6 (.mv (.t 16))]) <|
  .ret
theorem k57 : FnCode Try.prog 57 [] 17 [6] c57 := ⟨Try.f57, Try.func57, fun xs W => Try.call57 xs W, by kernel_rfl, by kernel_rfl, by kernel_rfl⟩

/-- ablaut/row.isCosts$1 -/
def c94 : MC :=
  .seq (.reg false [.op .none 3 (.mv (.c (.w (.bool false))))]) <|
  .seq (.reg false [.op .none 4 (.mv (.t 0)),
    .op .none 5 (.ld false 1 (.t 1)),
    .op .none 6 (.bin .lss (.t 4) (.t 5)),
    .op .none 7 (.mv (.t 6)),
    .op (.some (7, false)) 8 (.mv (.t 0)),
    .op (.some (7, false)) 9 (.bin .gtr (.t 8) (.c (.w (.int .i64 100000000)))),
    .op .none 10 (.pick (.t 7) (.c (.w (.bool true))) (.t 9)),
    .op .none 3 (.mv (.t 10))]) <|
  .ret
theorem k94 : FnCode Try.prog 94 [] 11 [3] c94 := ⟨Try.f94, Try.func94, fun xs W => Try.call94 xs W, by kernel_rfl, by kernel_rfl, by kernel_rfl⟩

/-! Chapter 19: the values. -/
def intsV (l : List Int) : PV := .sl 1 (l.map .i)
abbrev WorthT : Type := Bs × List Int × Unit
def worthV : WorthT → PV := fun (w, c, _) => .st [.s (bs w), intsV c]
abbrev TagT : Type := List Bs × List Int × List Int × List (List Int) × List WorthT × List Int × Unit
def tagV : TagT → PV := fun (g, f, z, p, w, u, _) => .st [.word g, intsV f, intsV z, .sl 1 (p.map intsV), .sl 2 (w.map worthV), intsV u]
theorem fok56 (s : Bs) (hs : smB s) : FOk Try.prog 56 [.S s] [] (.B (isNm s)) [] := by
  refine FOk.val k56 (by simp) (by simp) (by decide) ?_
  simp [c56]
  refine Run.loopA (ι := Nat) [] (fun i => i ≤ s.length ∧ allN (s.drop i) i = allN s 0) (fun i => ⟨[(0, .S s), (6, .I s.length), (7, .I i)], [], 1024⟩) (fun i => s.length - i) 0 (by decide) (by simp) ⟨by omega, by simp⟩ ?_
  rintro i ⟨hi, hall⟩ ih
  by_cases h : i < s.length
  · rw [drop_at h] at hall
    simp only [allN] at hall
    have hl := or_let s[i]
    simp (disch := omega) [h, wrap_i64]
    generalize orI .u8 (s[i].toNat : Int) 32 = x at hl ⊢
    have hx : (97 ≤ x ∧ x ≤ 122) ↔ letC s[i] = true := by rw [← hl]; simp
    have hd : nmC i s[i] = true ↔ (letC s[i] = true ∨ (i ≠ 0 ∧ 48 ≤ s[i].toNat ∧ s[i].toNat ≤ 57)) := by simp [nmC, digC]
    clear hl
    by_cases hn : nmC i s[i] = true
    · rw [hn, Bool.true_and] at hall
      have hgo := fun s' hle => ih (i + 1) s' ⟨by omega, hall⟩ (by omega) hle
      have hn2 := hd.1 hn
      clear hall ih hd hn
      cases hL : letC s[i]
      all_goals
        rw [hL] at hx hn2
        simp at hx hn2
        repeat' (first | refine And.intro ?_ ?_ | intro _)
        all_goals first
          | exact hgo _ (by simp)
          | (exfalso; omega)
    · have hn' : nmC i s[i] = false := by simpa using hn
      rw [hn', Bool.false_and] at hall
      have hn2 := fun q => hn (hd.2 q)
      have hE : isNm s = false := by simp [isNm, ← hall]
      rw [hE]
      clear hall ih hd hn hn' hE
      cases hL : letC s[i]
      all_goals
        rw [hL] at hx hn2
        simp at hx hn2
        repeat' (first | refine And.intro ?_ ?_ | intro _)
        all_goals first
          | exact Ends.v rfl (by simp)
          | (exfalso; omega)
  · rw [drop_no h] at hall
    have hE : isNm s = (decide (s ≠ []) && decide (s.length ≤ 12)) := by rw [isNm, ← hall]; rfl
    rw [hE]
    simp [h]
    exact ⟨fun q => Ends.v rfl (by simp [q]), fun q => Ends.v rfl (by simp [q])⟩
theorem fok92 (l : List WorthT) (u : AV) (f : Nat) (caps : List AV) (hu : Fix u f caps) (p : WorthT → Bool) (hf : ∀ x ∈ l, FOk Try.prog f (.v (worthV x) :: caps) [] (.B (p x)) []) (hl : l.length ≤ 200000000000000) :
    FOk Try.prog 92 [.v (.sl 2 (l.map worthV)), u] [] (.I (idxF p l 0)) [] := by
  have hm := hu.men
  have hcv := hu.conv
  have hpa := hu.pass
  have hfn := hu.fn
  refine FOk.val k92 (by simp) (by simp; intro k h; exact absurd h (hm k)) (by decide) ?_
  simp [c92]
  refine Run.loopA (ι := Nat) [] (fun i => i ≤ l.length ∧ idxF p (l.drop i) i = idxF p l 0) (fun i => ⟨[(0, .v (.sl 2 (l.map worthV))), (1, u), (7, .I l.length), (8, .I i)], [], 1024⟩) (fun i => l.length - i) 0 (by decide) (by simp [hcv]) ⟨by omega, by simp⟩ ?_
  rintro i ⟨hi, hall⟩ ih
  by_cases h : i < l.length
  · rw [drop_at h] at hall
    simp only [idxF] at hall
    have hcall := hf l[i] (List.getElem_mem h)
    generalize hx : l[i] = x at hcall hall
    obtain ⟨xw, xc, xu⟩ := x
    simp (disch := omega) [h, wrap_i64, hx, worthV]
    refine CallG.lent rfl hfn rfl (passAs_cons rfl (hu.passC _ _)) hcall rfl ?_
    simp (disch := omega) [wrap_i64]
    refine ⟨fun hp => ?_, fun hp => ?_⟩
    · simp only [hp, if_true] at hall
      exact Ends.v rfl (by simp [← hall])
    · simp only [hp] at hall
      exact ih (i + 1) _ ⟨by omega, by simpa using hall⟩ (by omega) (by simp [hcv])
  · rw [drop_no h] at hall
    simp [h]
    exact Ends.v rfl (by simp [idxF, ← hall])
theorem fok54 (l : List WorthT) (u : AV) (f : Nat) (caps : List AV) (hu : Fix u f caps) (p : WorthT → Bool) (hf : ∀ x ∈ l, FOk Try.prog f (.v (worthV x) :: caps) [] (.B (p x)) []) (hl : l.length ≤ 200000000000000) :
    FOk Try.prog 54 [.v (.sl 2 (l.map worthV)), u] [] (.B (l.any p)) [] := by
  have hm := hu.men
  have hpa := hu.pass
  refine FOk.val k54 (by simp) (by simp; intro k h; exact absurd h (hm k)) (by decide) ?_
  simp [c54]
  refine CallG.lent rfl rfl rfl (passAs_cons rfl (passAs_cons (hpa _ _) rfl)) (fok92 l u f caps hu p hf hl) rfl ?_
  simp [idxF_ge]
  exact Ends.v rfl (by simp)

theorem fok116 (l : List Int) (u : AV) (f : Nat) (caps : List AV) (hu : Fix u f caps) (p : Int → Bool) (hf : ∀ x ∈ l, FOk Try.prog f (.v (.i x) :: caps) [] (.B (p x)) []) (hl : l.length ≤ 200000000000000) :
    FOk Try.prog 116 [.v (.sl 1 (l.map .i)), u] [] (.I (idxF p l 0)) [] := by
  have hm := hu.men
  have hcv := hu.conv
  have hpa := hu.pass
  have hfn := hu.fn
  refine FOk.val k116 (by simp) (by simp; intro k h; exact absurd h (hm k)) (by decide) ?_
  simp [c116]
  refine Run.loopA (ι := Nat) [] (fun i => i ≤ l.length ∧ idxF p (l.drop i) i = idxF p l 0) (fun i => ⟨[(0, .v (.sl 1 (l.map .i))), (1, u), (7, .I l.length), (8, .I i)], [], 1024⟩) (fun i => l.length - i) 0 (by decide) (by simp [hcv]) ⟨by omega, by simp⟩ ?_
  rintro i ⟨hi, hall⟩ ih
  by_cases h : i < l.length
  · rw [drop_at h] at hall
    simp only [idxF] at hall
    have hcall := hf l[i] (List.getElem_mem h)
    generalize hx : l[i] = x at hcall hall
    have hx' := hx
    simp (disch := omega) [h, wrap_i64, hx]
    refine CallG.lent rfl hfn rfl (passAs_cons rfl (hu.passC _ _)) hcall rfl ?_
    simp (disch := omega) [wrap_i64]
    refine ⟨fun hp => ?_, fun hp => ?_⟩
    · simp only [hp, if_true] at hall
      exact Ends.v rfl (by simp [← hall])
    · simp only [hp] at hall
      exact ih (i + 1) _ ⟨by omega, by simpa using hall⟩ (by omega) (by simp [hcv])
  · rw [drop_no h] at hall
    simp [h]
    exact Ends.v rfl (by simp [idxF, ← hall])
theorem fok93 (l : List Int) (u : AV) (f : Nat) (caps : List AV) (hu : Fix u f caps) (p : Int → Bool) (hf : ∀ x ∈ l, FOk Try.prog f (.v (.i x) :: caps) [] (.B (p x)) []) (hl : l.length ≤ 200000000000000) :
    FOk Try.prog 93 [.v (.sl 1 (l.map .i)), u] [] (.B (l.any p)) [] := by
  have hm := hu.men
  have hpa := hu.pass
  refine FOk.val k93 (by simp) (by simp; intro k h; exact absurd h (hm k)) (by decide) ?_
  simp [c93]
  refine CallG.lent rfl rfl rfl (passAs_cons rfl (passAs_cons (hpa _ _) rfl)) (fok116 l u f caps hu p hf hl) rfl ?_
  simp [idxF_ge]
  exact Ends.v rfl (by simp)

theorem fok55 (x : WorthT) : FOk Try.prog 55 [.v (worthV x)] [] (.B (decide (400 < x.1.length))) [] := by
  obtain ⟨w, c, u⟩ := x
  refine FOk.val k55 (by simp) (by simp) (by decide) ?_
  simp [c55, worthV]
  exact Ends.v rfl (by simp)
/-- Costs of so many tags, from a least one on. -/
def badC (m c : Int) : Bool := decide (c < m) || decide (100000000 < c)
def csB (n : Nat) (m : Int) (l : List Int) : Bool := decide (l.length = n) && !l.any (badC m)
theorem fok94 (m x : Int) : FOk Try.prog 94 [.I x, .rp [.i m]] [] (.B (badC m x)) [] := by
  refine FOk.val k94 (by simp) (by simp) (by decide) ?_
  simp only [badC]
  simp [c94]
  by_cases h : x < m
  · have h' : ¬ m ≤ x := by omega
    simp [h, h']
    exact Ends.v rfl (by simp)
  · have h' : m ≤ x := by omega
    simp [h, h']
    exact Ends.v rfl (by simp)
theorem fok57 (l : List Int) (n : Nat) (m : Int) (hl : l.length ≤ 200000000000000) : FOk Try.prog 57 [.v (intsV l), .I n, .I m] [] (.B (csB n m l)) [] := by
  have hc := fok93 l _ _ _ (fixFn 94 [.i m] [] (by simp) (by simp) (by simp) (by simp)) (badC m) (fun x _ => fok94 m x) hl
  refine FOk.val k57 (by simp) (by simp) (by decide) ?_
  simp only [csB]
  generalize l.any (badC m) = y at hc ⊢
  simp [c57, intsV]
  by_cases h : l.length = n
  · subst h
    simp
    refine CallG.lent rfl rfl rfl rfl hc rfl ?_
    simp
    exact Ends.v rfl (by simp)
  · have h' : ¬ (l.length : Int) = (n : Int) := by omega
    simp [h, h']
    exact Ends.v rfl (by simp)
/-! How much there is. -/
def txL : List Bs → Int → Int
  | [], n => n
  | s :: l, n => if n ≤ 200000 then txL l (n + s.length) else n
def ovPr : List (List Int) → Int → Int
  | [], n => n
  | s :: l, n => if n ≤ 200000 then ovPr l (n + s.length) else n
def ovWo : List WorthT → Int → Int
  | [], n => n
  | s :: l, n => if n ≤ 200000 then ovWo l (n + (s.1.length + s.2.1.length)) else n
def txF (l : List Bs) : Int := txL l l.length
theorem txL_rng : ∀ (l : List Bs) (n : Int), 0 ≤ n → n ≤ 900000000000000 → (∀ s ∈ l, s.length ≤ 200000000000000) → 0 ≤ txL l n ∧ txL l n ≤ 900000000000000
  | [], n, h, h2, _ => ⟨h, h2⟩
  | s :: l, n, h, h2, h3 => by
    simp only [txL]
    have := h3 s (by simp)
    split
    · exact txL_rng l _ (by omega) (by omega) fun x hx => h3 x (by simp [hx])
    · exact ⟨h, h2⟩
theorem fok13 (l : List Bs) (hl : wordS l) : FOk Try.prog 13 [.v (.word l)] [] (.I (txF l)) [] := by
  obtain ⟨h1, h2⟩ := hl
  refine FOk.val k13 (by simp) (by simp) (by decide) ?_
  simp only [txF]
  simp [c13]
  refine Run.loopA (ι := Nat × Int) [] (fun q => q.1 ≤ l.length ∧ 0 ≤ q.2 ∧ q.2 ≤ 900000000000000 ∧ txL (l.drop q.1) q.2 = txL l l.length) (fun q => ⟨[(0, .v (.word l)), (3, .I q.2), (4, .I q.1)], [], 1024⟩) (fun q => l.length - q.1) (0, l.length) (by decide) (by simp) ⟨by simp, by simp, by simp; omega, by simp⟩ ?_
  rintro ⟨i, n⟩ ⟨hi, n0, n1, hall⟩ ih
  simp only at hi n0 n1 hall ih
  by_cases h : i < l.length
  · rw [drop_at h] at hall
    simp only [txL] at hall
    have hb := h2 _ (List.getElem_mem h)
    change l[i].length ≤ 200000000000000 at hb
    by_cases hn : n ≤ 200000
    · rw [if_pos hn] at hall
      simp (disch := omega) [h, wrap_i64, hn]
      exact ih (i + 1, n + l[i].length) _ ⟨by simp; omega, by simp; omega, by simp; omega, by simpa using hall⟩ (by simp; omega) (by simp)
    · rw [if_neg hn] at hall
      simp (disch := omega) [h, wrap_i64, hn]
      exact Ends.v rfl (by simp [hall])
  · rw [drop_no h] at hall
    simp only [txL] at hall
    simp [h]
    exact Ends.v rfl (by simp [hall])

end Go.Proofs

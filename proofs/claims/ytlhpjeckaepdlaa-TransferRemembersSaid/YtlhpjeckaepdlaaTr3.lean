/- The walk. -/
import Derived.Test.YtlhpjeckaepdlaaTr2
import Derived.Test.YtlhpjeckaepdlaaProg
import Derived.KernelRfl
set_option linter.all false
set_option maxHeartbeats 2000000
namespace Go.Proofs
open Go Go.AM
attribute [local irreducible] Run Ends
/-- slices.IndexFunc[[]string,string] -/
def c112 : MC :=
  .seq (.reg false [.op .none 4 (.mv (.c (.w (.int .i64 0))))]) <|
  .seq (.seq (.reg false [.op .none 6 (.mv (.t 0)),
    .op .none 7 (.len false (.t 6)),
    .op .none 8 (.mv (.c (.w (.int .i64 0))))]) <|
  .block 0 <|
    .loop <|
      .seq (.reg false [.op .none 9 (.bin .lss (.t 8) (.t 7))]) <|
      .seq (.cond (.t 9)
        (.skip)
        (.exit 0)) <|
      .seq (.block 1 <|
        .seq (.reg false [.op .none 10 (.mv (.t 8)),
          .op .none 5 (.mv (.t 10))]) <|
        .seq (.reg false [.op .none 11 (.mv (.t 1)),
          .op .none 12 (.mv (.t 0)),
          .op .none 13 (.mv (.t 5)),
          .op .none 14 (.ia 1 (.t 12) (.t 13)),
          .op .none 15 (.ld false 1 (.t 14)),
          .call .none 16 (.t 11) [(.t 15)]]) <|
        .cond (.t 16)
          (.seq (.reg false [.op .none 17 (.mv (.t 5)),
            .op .none 4 (.mv (.t 17))]) <|
          .ret)
          (.skip)) <|
      .reg false [.op .none 18 (.bin .add (.t 8) (.c (.w (.int .i64 1)))),
        .op .none 8 (.mv (.t 18))]) <|
  .seq (.reg false [.op .none 4 (.mv (.c (.w (.int .i64 (-1)))))]) <|
  .ret
theorem k112 : FnCode Try.prog 112 [] 19 [4] c112 := ⟨Try.f112, Try.func112, fun xs W => Try.call112 xs W, by kernel_rfl, by kernel_rfl, by kernel_rfl⟩

/-- slices.ContainsFunc[[]string,string] -/
def c92 : MC :=
  .seq (.reg false [.op .none 4 (.mv (.c (.w (.bool false))))]) <|
  .seq (.reg false [.op .none 5 (.mv (.t 0)),
    .op .none 6 (.mv (.t 1)),
    .call .none 7 (.f 112) [(.t 5), (.t 6)],
    .op .none 8 (.bin .geq (.t 7) (.c (.w (.int .i64 0)))),
    .op .none 4 (.mv (.t 8))]) <|
  .ret
theorem k92 : FnCode Try.prog 92 [] 9 [4] c92 := ⟨Try.f92, Try.func92, fun xs W => Try.call92 xs W, by kernel_rfl, by kernel_rfl, by kernel_rfl⟩

/-- slices.IndexFunc[[][]string,[]string] -/
def c86 : MC :=
  .seq (.reg false [.op .none 4 (.mv (.c (.w (.int .i64 0))))]) <|
  .seq (.seq (.reg false [.op .none 6 (.mv (.t 0)),
    .op .none 7 (.len false (.t 6)),
    .op .none 8 (.mv (.c (.w (.int .i64 0))))]) <|
  .block 0 <|
    .loop <|
      .seq (.reg false [.op .none 9 (.bin .lss (.t 8) (.t 7))]) <|
      .seq (.cond (.t 9)
        (.skip)
        (.exit 0)) <|
      .seq (.block 1 <|
        .seq (.reg false [.op .none 10 (.mv (.t 8)),
          .op .none 5 (.mv (.t 10))]) <|
        .seq (.reg false [.op .none 11 (.mv (.t 1)),
          .op .none 12 (.mv (.t 0)),
          .op .none 13 (.mv (.t 5)),
          .op .none 14 (.ia 1 (.t 12) (.t 13)),
          .op .none 15 (.ld false 1 (.t 14)),
          .call .none 16 (.t 11) [(.t 15)]]) <|
        .cond (.t 16)
          (.seq (.reg false [.op .none 17 (.mv (.t 5)),
            .op .none 4 (.mv (.t 17))]) <|
          .ret)
          (.skip)) <|
      .reg false [.op .none 18 (.bin .add (.t 8) (.c (.w (.int .i64 1)))),
        .op .none 8 (.mv (.t 18))]) <|
  .seq (.reg false [.op .none 4 (.mv (.c (.w (.int .i64 (-1)))))]) <|
  .ret
theorem k86 : FnCode Try.prog 86 [] 19 [4] c86 := ⟨Try.f86, Try.func86, fun xs W => Try.call86 xs W, by kernel_rfl, by kernel_rfl, by kernel_rfl⟩

/-- slices.ContainsFunc[[][]string,[]string] -/
def c38 : MC :=
  .seq (.reg false [.op .none 4 (.mv (.c (.w (.bool false))))]) <|
  .seq (.reg false [.op .none 5 (.mv (.t 0)),
    .op .none 6 (.mv (.t 1)),
    .call .none 7 (.f 86) [(.t 5), (.t 6)],
    .op .none 8 (.bin .geq (.t 7) (.c (.w (.int .i64 0)))),
    .op .none 4 (.mv (.t 8))]) <|
  .ret
theorem k38 : FnCode Try.prog 38 [] 9 [4] c38 := ⟨Try.f38, Try.func38, fun xs W => Try.call38 xs W, by kernel_rfl, by kernel_rfl, by kernel_rfl⟩

/-- slices.IndexFunc[[]ablaut/api.Slot,ablaut/api.Slot] -/
def c87 : MC :=
  .seq (.reg false [.op .none 4 (.mv (.c (.w (.int .i64 0))))]) <|
  .seq (.seq (.reg false [.op .none 6 (.mv (.t 0)),
    .op .none 7 (.len false (.t 6)),
    .op .none 8 (.mv (.c (.w (.int .i64 0))))]) <|
  .block 0 <|
    .loop <|
      .seq (.reg false [.op .none 9 (.bin .lss (.t 8) (.t 7))]) <|
      .seq (.cond (.t 9)
        (.skip)
        (.exit 0)) <|
      .seq (.block 1 <|
        .seq (.reg false [.op .none 10 (.mv (.t 8)),
          .op .none 5 (.mv (.t 10))]) <|
        .seq (.reg false [.op .none 11 (.mv (.t 1)),
          .op .none 12 (.mv (.t 0)),
          .op .none 13 (.mv (.t 5)),
          .op .none 14 (.ia 5 (.t 12) (.t 13)),
          .op .none 15 (.ld true 5 (.t 14)),
          .call .none 16 (.t 11) [(.t 15)]]) <|
        .cond (.t 16)
          (.seq (.reg false [.op .none 17 (.mv (.t 5)),
            .op .none 4 (.mv (.t 17))]) <|
          .ret)
          (.skip)) <|
      .reg false [.op .none 18 (.bin .add (.t 8) (.c (.w (.int .i64 1)))),
        .op .none 8 (.mv (.t 18))]) <|
  .seq (.reg false [.op .none 4 (.mv (.c (.w (.int .i64 (-1)))))]) <|
  .ret
theorem k87 : FnCode Try.prog 87 [] 19 [4] c87 := ⟨Try.f87, Try.func87, fun xs W => Try.call87 xs W, by kernel_rfl, by kernel_rfl, by kernel_rfl⟩

/-- slices.ContainsFunc[[]ablaut/api.Slot,ablaut/api.Slot] -/
def c40 : MC :=
  .seq (.reg false [.op .none 4 (.mv (.c (.w (.bool false))))]) <|
  .seq (.reg false [.op .none 5 (.mv (.t 0)),
    .op .none 6 (.mv (.t 1)),
    .call .none 7 (.f 87) [(.t 5), (.t 6)],
    .op .none 8 (.bin .geq (.t 7) (.c (.w (.int .i64 0)))),
    .op .none 4 (.mv (.t 8))]) <|
  .ret
theorem k40 : FnCode Try.prog 40 [] 9 [4] c40 := ⟨Try.f40, Try.func40, fun xs W => Try.call40 xs W, by kernel_rfl, by kernel_rfl, by kernel_rfl⟩

/-- slices.IndexFunc[[]ablaut/api.Turned,ablaut/api.Turned] -/
def c89 : MC :=
  .seq (.reg false [.op .none 4 (.mv (.c (.w (.int .i64 0))))]) <|
  .seq (.seq (.reg false [.op .none 6 (.mv (.t 0)),
    .op .none 7 (.len false (.t 6)),
    .op .none 8 (.mv (.c (.w (.int .i64 0))))]) <|
  .block 0 <|
    .loop <|
      .seq (.reg false [.op .none 9 (.bin .lss (.t 8) (.t 7))]) <|
      .seq (.cond (.t 9)
        (.skip)
        (.exit 0)) <|
      .seq (.block 1 <|
        .seq (.reg false [.op .none 10 (.mv (.t 8)),
          .op .none 5 (.mv (.t 10))]) <|
        .seq (.reg false [.op .none 11 (.mv (.t 1)),
          .op .none 12 (.mv (.t 0)),
          .op .none 13 (.mv (.t 5)),
          .op .none 14 (.ia 4 (.t 12) (.t 13)),
          .op .none 15 (.ld true 4 (.t 14)),
          .call .none 16 (.t 11) [(.t 15)]]) <|
        .cond (.t 16)
          (.seq (.reg false [.op .none 17 (.mv (.t 5)),
            .op .none 4 (.mv (.t 17))]) <|
          .ret)
          (.skip)) <|
      .reg false [.op .none 18 (.bin .add (.t 8) (.c (.w (.int .i64 1)))),
        .op .none 8 (.mv (.t 18))]) <|
  .seq (.reg false [.op .none 4 (.mv (.c (.w (.int .i64 (-1)))))]) <|
  .ret
theorem k89 : FnCode Try.prog 89 [] 19 [4] c89 := ⟨Try.f89, Try.func89, fun xs W => Try.call89 xs W, by kernel_rfl, by kernel_rfl, by kernel_rfl⟩

/-- slices.ContainsFunc[[]ablaut/api.Turned,ablaut/api.Turned] -/
def c43 : MC :=
  .seq (.reg false [.op .none 4 (.mv (.c (.w (.bool false))))]) <|
  .seq (.reg false [.op .none 5 (.mv (.t 0)),
    .op .none 6 (.mv (.t 1)),
    .call .none 7 (.f 89) [(.t 5), (.t 6)],
    .op .none 8 (.bin .geq (.t 7) (.c (.w (.int .i64 0)))),
    .op .none 4 (.mv (.t 8))]) <|
  .ret
theorem k43 : FnCode Try.prog 43 [] 9 [4] c43 := ⟨Try.f43, Try.func43, fun xs W => Try.call43 xs W, by kernel_rfl, by kernel_rfl, by kernel_rfl⟩

/-- slices.IndexFunc[[]ablaut/api.Unit,ablaut/api.Unit] -/
def c90 : MC :=
  .seq (.reg false [.op .none 4 (.mv (.c (.w (.int .i64 0))))]) <|
  .seq (.seq (.reg false [.op .none 6 (.mv (.t 0)),
    .op .none 7 (.len false (.t 6)),
    .op .none 8 (.mv (.c (.w (.int .i64 0))))]) <|
  .block 0 <|
    .loop <|
      .seq (.reg false [.op .none 9 (.bin .lss (.t 8) (.t 7))]) <|
      .seq (.cond (.t 9)
        (.skip)
        (.exit 0)) <|
      .seq (.block 1 <|
        .seq (.reg false [.op .none 10 (.mv (.t 8)),
          .op .none 5 (.mv (.t 10))]) <|
        .seq (.reg false [.op .none 11 (.mv (.t 1)),
          .op .none 12 (.mv (.t 0)),
          .op .none 13 (.mv (.t 5)),
          .op .none 14 (.ia 2 (.t 12) (.t 13)),
          .op .none 15 (.ld true 2 (.t 14)),
          .call .none 16 (.t 11) [(.t 15)]]) <|
        .cond (.t 16)
          (.seq (.reg false [.op .none 17 (.mv (.t 5)),
            .op .none 4 (.mv (.t 17))]) <|
          .ret)
          (.skip)) <|
      .reg false [.op .none 18 (.bin .add (.t 8) (.c (.w (.int .i64 1)))),
        .op .none 8 (.mv (.t 18))]) <|
  .seq (.reg false [.op .none 4 (.mv (.c (.w (.int .i64 (-1)))))]) <|
  .ret
theorem k90 : FnCode Try.prog 90 [] 19 [4] c90 := ⟨Try.f90, Try.func90, fun xs W => Try.call90 xs W, by kernel_rfl, by kernel_rfl, by kernel_rfl⟩

/-- slices.ContainsFunc[[]ablaut/api.Unit,ablaut/api.Unit] -/
def c51 : MC :=
  .seq (.reg false [.op .none 4 (.mv (.c (.w (.bool false))))]) <|
  .seq (.reg false [.op .none 5 (.mv (.t 0)),
    .op .none 6 (.mv (.t 1)),
    .call .none 7 (.f 90) [(.t 5), (.t 6)],
    .op .none 8 (.bin .geq (.t 7) (.c (.w (.int .i64 0)))),
    .op .none 4 (.mv (.t 8))]) <|
  .ret
theorem k51 : FnCode Try.prog 51 [] 9 [4] c51 := ⟨Try.f51, Try.func51, fun xs W => Try.call51 xs W, by kernel_rfl, by kernel_rfl, by kernel_rfl⟩

def txtV (s : Bs) : PV := .s (bs s)

theorem fok112 (l : List Bs) (u : AV) (f : Nat) (caps : List AV) (hu : Fix u f caps) (p : Bs → Bool) (hf : ∀ x ∈ l, FOk Try.prog f (.v (txtV x) :: caps) [] (.B (p x)) []) (hl : l.length ≤ 200000000000000) :
    FOk Try.prog 112 [.v (.sl 1 (l.map txtV)), u] [] (.I (idxF p l 0)) [] := by
  have hm := hu.men
  have hcv := hu.conv
  have hpa := hu.pass
  have hfn := hu.fn
  refine FOk.val k112 (by simp) (by simp; intro k h; exact absurd h (hm k)) (by decide) ?_
  simp [c112]
  refine Run.loopA (ι := Nat) [] (fun i => i ≤ l.length ∧ idxF p (l.drop i) i = idxF p l 0) (fun i => ⟨[(0, .v (.sl 1 (l.map txtV))), (1, u), (7, .I l.length), (8, .I i)], [], 1024⟩) (fun i => l.length - i) 0 (by decide) (by simp [hcv]) ⟨by omega, by simp⟩ ?_
  rintro i ⟨hi, hall⟩ ih
  by_cases h : i < l.length
  · rw [drop_at h] at hall
    simp only [idxF] at hall
    have hcall := hf l[i] (List.getElem_mem h)
    generalize hx : l[i] = x at hcall hall
    have hx' := hx
    simp (disch := omega) [h, wrap_i64, hx, txtV]
    refine CallG.lent rfl hfn rfl (passAs_cons rfl (hu.passC _ _)) hcall rfl ?_
    simp (disch := omega) [wrap_i64]
    refine ⟨fun hp => ?_, fun hp => ?_⟩
    · simp only [hp, if_true] at hall
      exact Ends.v rfl (by simp [← hall])
    · simp only [hp] at hall
      exact ih (i + 1) _ ⟨by omega, by simpa using hall⟩ (by omega) (by simp [hcv])
  · rw [drop_no h] at hall
    simp [h]
    exact Ends.v rfl (by simp [idxF, ← hall])
theorem fok92 (l : List Bs) (u : AV) (f : Nat) (caps : List AV) (hu : Fix u f caps) (p : Bs → Bool) (hf : ∀ x ∈ l, FOk Try.prog f (.v (txtV x) :: caps) [] (.B (p x)) []) (hl : l.length ≤ 200000000000000) :
    FOk Try.prog 92 [.v (.sl 1 (l.map txtV)), u] [] (.B (l.any p)) [] := by
  have hm := hu.men
  have hpa := hu.pass
  refine FOk.val k92 (by simp) (by simp; intro k h; exact absurd h (hm k)) (by decide) ?_
  simp [c92]
  refine CallG.lent rfl rfl rfl (passAs_cons rfl (passAs_cons (hpa _ _) rfl)) (fok112 l u f caps hu p hf hl) rfl ?_
  simp [idxF_ge]
  exact Ends.v rfl (by simp)

theorem fok86 (l : List (List Bs)) (u : AV) (f : Nat) (caps : List AV) (hu : Fix u f caps) (p : (List Bs) → Bool) (hf : ∀ x ∈ l, FOk Try.prog f (.v (PV.word x) :: caps) [] (.B (p x)) []) (hl : l.length ≤ 200000000000000) :
    FOk Try.prog 86 [.v (.sl 1 (l.map PV.word)), u] [] (.I (idxF p l 0)) [] := by
  have hm := hu.men
  have hcv := hu.conv
  have hpa := hu.pass
  have hfn := hu.fn
  refine FOk.val k86 (by simp) (by simp; intro k h; exact absurd h (hm k)) (by decide) ?_
  simp [c86]
  refine Run.loopA (ι := Nat) [] (fun i => i ≤ l.length ∧ idxF p (l.drop i) i = idxF p l 0) (fun i => ⟨[(0, .v (.sl 1 (l.map PV.word))), (1, u), (7, .I l.length), (8, .I i)], [], 1024⟩) (fun i => l.length - i) 0 (by decide) (by simp [hcv]) ⟨by omega, by simp⟩ ?_
  rintro i ⟨hi, hall⟩ ih
  by_cases h : i < l.length
  · rw [drop_at h] at hall
    simp only [idxF] at hall
    have hcall := hf l[i] (List.getElem_mem h)
    generalize hx : l[i] = x at hcall hall
    have hx' := hx
    simp (disch := omega) [h, wrap_i64, hx, PV.word]
    refine CallG.lent rfl hfn rfl (passAs_cons rfl (hu.passC _ _)) hcall rfl ?_
    simp (disch := omega) [wrap_i64]
    refine ⟨fun hp => ?_, fun hp => ?_⟩
    · simp only [hp, if_true] at hall
      exact Ends.v rfl (by simp [← hall])
    · simp only [hp] at hall
      exact ih (i + 1) _ ⟨by omega, by simpa using hall⟩ (by omega) (by simp [hcv])
  · rw [drop_no h] at hall
    simp [h]
    exact Ends.v rfl (by simp [idxF, ← hall])
theorem fok38 (l : List (List Bs)) (u : AV) (f : Nat) (caps : List AV) (hu : Fix u f caps) (p : (List Bs) → Bool) (hf : ∀ x ∈ l, FOk Try.prog f (.v (PV.word x) :: caps) [] (.B (p x)) []) (hl : l.length ≤ 200000000000000) :
    FOk Try.prog 38 [.v (.sl 1 (l.map PV.word)), u] [] (.B (l.any p)) [] := by
  have hm := hu.men
  have hpa := hu.pass
  refine FOk.val k38 (by simp) (by simp; intro k h; exact absurd h (hm k)) (by decide) ?_
  simp [c38]
  refine CallG.lent rfl rfl rfl (passAs_cons rfl (passAs_cons (hpa _ _) rfl)) (fok86 l u f caps hu p hf hl) rfl ?_
  simp [idxF_ge]
  exact Ends.v rfl (by simp)

theorem fok87 (l : List SlotT) (u : AV) (f : Nat) (caps : List AV) (hu : Fix u f caps) (p : SlotT → Bool) (hf : ∀ x ∈ l, FOk Try.prog f (.v (slotV x) :: caps) [] (.B (p x)) []) (hl : l.length ≤ 200000000000000) :
    FOk Try.prog 87 [.v (.sl 5 (l.map slotV)), u] [] (.I (idxF p l 0)) [] := by
  have hm := hu.men
  have hcv := hu.conv
  have hpa := hu.pass
  have hfn := hu.fn
  refine FOk.val k87 (by simp) (by simp; intro k h; exact absurd h (hm k)) (by decide) ?_
  simp [c87]
  refine Run.loopA (ι := Nat) [] (fun i => i ≤ l.length ∧ idxF p (l.drop i) i = idxF p l 0) (fun i => ⟨[(0, .v (.sl 5 (l.map slotV))), (1, u), (7, .I l.length), (8, .I i)], [], 1024⟩) (fun i => l.length - i) 0 (by decide) (by simp [hcv]) ⟨by omega, by simp⟩ ?_
  rintro i ⟨hi, hall⟩ ih
  by_cases h : i < l.length
  · rw [drop_at h] at hall
    simp only [idxF] at hall
    have hcall := hf l[i] (List.getElem_mem h)
    generalize hx : l[i] = x at hcall hall
    obtain ⟨o1, b1, t1, f1, k1, u1⟩ := x
    simp (disch := omega) [h, wrap_i64, hx, slotV]
    refine CallG.lent rfl hfn rfl (passAs_cons rfl (hu.passC _ _)) hcall rfl ?_
    simp (disch := omega) [wrap_i64]
    refine ⟨fun hp => ?_, fun hp => ?_⟩
    · simp only [hp, if_true] at hall
      exact Ends.v rfl (by simp [← hall])
    · simp only [hp] at hall
      exact ih (i + 1) _ ⟨by omega, by simpa using hall⟩ (by omega) (by simp [hcv])
  · rw [drop_no h] at hall
    simp [h]
    exact Ends.v rfl (by simp [idxF, ← hall])
theorem fok40 (l : List SlotT) (u : AV) (f : Nat) (caps : List AV) (hu : Fix u f caps) (p : SlotT → Bool) (hf : ∀ x ∈ l, FOk Try.prog f (.v (slotV x) :: caps) [] (.B (p x)) []) (hl : l.length ≤ 200000000000000) :
    FOk Try.prog 40 [.v (.sl 5 (l.map slotV)), u] [] (.B (l.any p)) [] := by
  have hm := hu.men
  have hpa := hu.pass
  refine FOk.val k40 (by simp) (by simp; intro k h; exact absurd h (hm k)) (by decide) ?_
  simp [c40]
  refine CallG.lent rfl rfl rfl (passAs_cons rfl (passAs_cons (hpa _ _) rfl)) (fok87 l u f caps hu p hf hl) rfl ?_
  simp [idxF_ge]
  exact Ends.v rfl (by simp)

theorem fok89 (l : List TurnT) (u : AV) (f : Nat) (caps : List AV) (hu : Fix u f caps) (p : TurnT → Bool) (hf : ∀ x ∈ l, FOk Try.prog f (.v (turnV x) :: caps) [] (.B (p x)) []) (hl : l.length ≤ 200000000000000) :
    FOk Try.prog 89 [.v (.sl 4 (l.map turnV)), u] [] (.I (idxF p l 0)) [] := by
  have hm := hu.men
  have hcv := hu.conv
  have hpa := hu.pass
  have hfn := hu.fn
  refine FOk.val k89 (by simp) (by simp; intro k h; exact absurd h (hm k)) (by decide) ?_
  simp [c89]
  refine Run.loopA (ι := Nat) [] (fun i => i ≤ l.length ∧ idxF p (l.drop i) i = idxF p l 0) (fun i => ⟨[(0, .v (.sl 4 (l.map turnV))), (1, u), (7, .I l.length), (8, .I i)], [], 1024⟩) (fun i => l.length - i) 0 (by decide) (by simp [hcv]) ⟨by omega, by simp⟩ ?_
  rintro i ⟨hi, hall⟩ ih
  by_cases h : i < l.length
  · rw [drop_at h] at hall
    simp only [idxF] at hall
    have hcall := hf l[i] (List.getElem_mem h)
    generalize hx : l[i] = x at hcall hall
    obtain ⟨f1, i1, t1, p1, u1⟩ := x
    simp (disch := omega) [h, wrap_i64, hx, turnV]
    refine CallG.lent rfl hfn rfl (passAs_cons rfl (hu.passC _ _)) hcall rfl ?_
    simp (disch := omega) [wrap_i64]
    refine ⟨fun hp => ?_, fun hp => ?_⟩
    · simp only [hp, if_true] at hall
      exact Ends.v rfl (by simp [← hall])
    · simp only [hp] at hall
      exact ih (i + 1) _ ⟨by omega, by simpa using hall⟩ (by omega) (by simp [hcv])
  · rw [drop_no h] at hall
    simp [h]
    exact Ends.v rfl (by simp [idxF, ← hall])
theorem fok43 (l : List TurnT) (u : AV) (f : Nat) (caps : List AV) (hu : Fix u f caps) (p : TurnT → Bool) (hf : ∀ x ∈ l, FOk Try.prog f (.v (turnV x) :: caps) [] (.B (p x)) []) (hl : l.length ≤ 200000000000000) :
    FOk Try.prog 43 [.v (.sl 4 (l.map turnV)), u] [] (.B (l.any p)) [] := by
  have hm := hu.men
  have hpa := hu.pass
  refine FOk.val k43 (by simp) (by simp; intro k h; exact absurd h (hm k)) (by decide) ?_
  simp [c43]
  refine CallG.lent rfl rfl rfl (passAs_cons rfl (passAs_cons (hpa _ _) rfl)) (fok89 l u f caps hu p hf hl) rfl ?_
  simp [idxF_ge]
  exact Ends.v rfl (by simp)

theorem fok90 (l : List UnitT) (u : AV) (f : Nat) (caps : List AV) (hu : Fix u f caps) (p : UnitT → Bool) (hf : ∀ x ∈ l, FOk Try.prog f (.v (unitV x) :: caps) [] (.B (p x)) []) (hl : l.length ≤ 200000000000000) :
    FOk Try.prog 90 [.v (.sl 2 (l.map unitV)), u] [] (.I (idxF p l 0)) [] := by
  have hm := hu.men
  have hcv := hu.conv
  have hpa := hu.pass
  have hfn := hu.fn
  refine FOk.val k90 (by simp) (by simp; intro k h; exact absurd h (hm k)) (by decide) ?_
  simp [c90]
  refine Run.loopA (ι := Nat) [] (fun i => i ≤ l.length ∧ idxF p (l.drop i) i = idxF p l 0) (fun i => ⟨[(0, .v (.sl 2 (l.map unitV))), (1, u), (7, .I l.length), (8, .I i)], [], 1024⟩) (fun i => l.length - i) 0 (by decide) (by simp [hcv]) ⟨by omega, by simp⟩ ?_
  rintro i ⟨hi, hall⟩ ih
  by_cases h : i < l.length
  · rw [drop_at h] at hall
    simp only [idxF] at hall
    have hcall := hf l[i] (List.getElem_mem h)
    generalize hx : l[i] = x at hcall hall
    obtain ⟨b1, t1, u1⟩ := x
    simp (disch := omega) [h, wrap_i64, hx, unitV]
    refine CallG.lent rfl hfn rfl (passAs_cons rfl (hu.passC _ _)) hcall rfl ?_
    simp (disch := omega) [wrap_i64]
    refine ⟨fun hp => ?_, fun hp => ?_⟩
    · simp only [hp, if_true] at hall
      exact Ends.v rfl (by simp [← hall])
    · simp only [hp] at hall
      exact ih (i + 1) _ ⟨by omega, by simpa using hall⟩ (by omega) (by simp [hcv])
  · rw [drop_no h] at hall
    simp [h]
    exact Ends.v rfl (by simp [idxF, ← hall])
theorem fok51 (l : List UnitT) (u : AV) (f : Nat) (caps : List AV) (hu : Fix u f caps) (p : UnitT → Bool) (hf : ∀ x ∈ l, FOk Try.prog f (.v (unitV x) :: caps) [] (.B (p x)) []) (hl : l.length ≤ 200000000000000) :
    FOk Try.prog 51 [.v (.sl 2 (l.map unitV)), u] [] (.B (l.any p)) [] := by
  have hm := hu.men
  have hpa := hu.pass
  refine FOk.val k51 (by simp) (by simp; intro k h; exact absurd h (hm k)) (by decide) ?_
  simp [c51]
  refine CallG.lent rfl rfl rfl (passAs_cons rfl (passAs_cons (hpa _ _) rfl)) (fok90 l u f caps hu p hf hl) rfl ?_
  simp [idxF_ge]
  exact Ends.v rfl (by simp)


end Go.Proofs

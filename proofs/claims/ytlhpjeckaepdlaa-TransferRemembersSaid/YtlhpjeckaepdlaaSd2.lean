/- The walk. -/
import Derived.Test.YtlhpjeckaepdlaaSd1
import Derived.Test.YtlhpjeckaepdlaaProg
import Derived.KernelRfl
set_option linter.all false
set_option maxHeartbeats 2000000
namespace Go.Proofs
open Go Go.AM
attribute [local irreducible] Run Ends
/-- ablaut/transfer.known$1$1 -/
def c106 : MC :=
  .seq (.reg false [.op .none 2 (.mv (.c (.w (.bool false))))]) <|
  .seq (.reg false [.op .none 3 (.mv (.t 0)),
    .op .none 4 (.len true (.t 3)),
    .op .none 5 (.bin .gtr (.t 4) (.c (.w (.int .i64 400)))),
    .op .none 2 (.mv (.t 5))]) <|
  .ret
theorem k106 : FnCode Try.prog 106 [] 6 [2] c106 := ⟨Try.f106, Try.func106, fun xs W => Try.call106 xs W, by kernel_rfl, by kernel_rfl, by kernel_rfl⟩

/-- ablaut/transfer.known$1 -/
def c105 : MC :=
  .seq (.reg false [.op .none 2 (.mv (.c (.w (.bool false))))]) <|
  .seq (.reg false [.op .none 3 (.mv (.t 0)),
    .op .none 4 (.len false (.t 3)),
    .op .none 5 (.bin .gtr (.t 4) (.c (.w (.int .i64 20)))),
    .op .none 6 (.mv (.t 5)),
    .op (.some (6, false)) 7 (.mv (.t 0)),
    .call (.some (6, false)) 8 (.f 92) [(.t 7), (.f 106)],
    .op .none 9 (.pick (.t 6) (.c (.w (.bool true))) (.t 8)),
    .op .none 2 (.mv (.t 9))]) <|
  .ret
theorem k105 : FnCode Try.prog 105 [] 10 [2] c105 := ⟨Try.f105, Try.func105, fun xs W => Try.call105 xs W, by kernel_rfl, by kernel_rfl, by kernel_rfl⟩

/-- ablaut/transfer.known$2 -/
def c108 : MC :=
  .seq (.reg false [.op .none 2 (.box false (.t 0)),
    .op .none 3 (.mv (.c (.w (.bool false))))]) <|
  .seq (.reg false [.op .none 4 (.ld false 1 (.t 1)),
    .op .none 5 (.fa 0 (.t 2)),
    .op .none 6 (.ld false 1 (.t 5)),
    .call .none 7 (.t 4) [(.t 6)],
    .op .none 8 (.mv (.t 7)),
    .op (.some (8, false)) 9 (.ld false 1 (.t 1)),
    .op (.some (8, false)) 10 (.fa 1 (.t 2)),
    .op (.some (8, false)) 11 (.ld false 1 (.t 10)),
    .call (.some (8, false)) 12 (.t 9) [(.t 11)],
    .op .none 13 (.pick (.t 8) (.c (.w (.bool true))) (.t 12)),
    .op .none 3 (.mv (.t 13))]) <|
  .ret
theorem k108 : FnCode Try.prog 108 [] 14 [3] c108 := ⟨Try.f108, Try.func108, fun xs W => Try.call108 xs W, by kernel_rfl, by kernel_rfl, by kernel_rfl⟩

/-- slices.IndexFunc[[]ablaut/api.Known,ablaut/api.Known] -/
def c114 : MC :=
  .seq (.reg false [.op .none 4 (.mv (.c (.w (.int .i64 0))))]) <|
  .seq (.seq (.reg false [.op .none 6 (.mv (.t 0)),
    .op .none 7 (.len false (.t 6)),
    .op .none 8 (.mv (.c (.w (.int .i64 0))))]) <|
  .block 0 <|
    .loop <|
      .seq (.reg false [.op .none 9 (.bin .lss (.t 8) (.t 7))]) <|
      .seq (.cond (.t 9)
        (.skip)
        (.exit 0)) <|
      .seq (.block 1 <|
        .seq (.reg false [.op .none 10 (.mv (.t 8)),
          .op .none 5 (.mv (.t 10))]) <|
        .seq (.reg false [.op .none 11 (.mv (.t 1)),
          .op .none 12 (.mv (.t 0)),
          .op .none 13 (.mv (.t 5)),
          .op .none 14 (.ia 2 (.t 12) (.t 13)),
          .op .none 15 (.ld true 2 (.t 14)),
          .call .none 16 (.t 11) [(.t 15)]]) <|
        .cond (.t 16)
          (.seq (.reg false [.op .none 17 (.mv (.t 5)),
            .op .none 4 (.mv (.t 17))]) <|
          .ret)
          (.skip)) <|
      .reg false [.op .none 18 (.bin .add (.t 8) (.c (.w (.int .i64 1)))),
        .op .none 8 (.mv (.t 18))]) <|
  .seq (.reg false [.op .none 4 (.mv (.c (.w (.int .i64 (-1)))))]) <|
  .ret
theorem k114 : FnCode Try.prog 114 [] 19 [4] c114 := ⟨Try.f114, Try.func114, fun xs W => Try.call114 xs W, by kernel_rfl, by kernel_rfl, by kernel_rfl⟩

/-- slices.ContainsFunc[[]ablaut/api.Known,ablaut/api.Known] -/
def c107 : MC :=
  .seq (.reg false [.op .none 4 (.mv (.c (.w (.bool false))))]) <|
  .seq (.reg false [.op .none 5 (.mv (.t 0)),
    .op .none 6 (.mv (.t 1)),
    .call .none 7 (.f 114) [(.t 5), (.t 6)],
    .op .none 8 (.bin .geq (.t 7) (.c (.w (.int .i64 0)))),
    .op .none 4 (.mv (.t 8))]) <|
  .ret
theorem k107 : FnCode Try.prog 107 [] 9 [4] c107 := ⟨Try.f107, Try.func107, fun xs W => Try.call107 xs W, by kernel_rfl, by kernel_rfl, by kernel_rfl⟩

/-- ablaut/transfer.known -/
def c72 : MC :=
  .seq (.reg false [.op .none 4 (.mv (.c (.w (.int .i64 0))))]) <|
  .seq (.reg false [.op .none 5 (.alloc false [(.w .nilFunc)]),
    .store .none false 1 (.t 5) (.f 105)]) <|
  .seq (.seq (.reg false [.op .none 6 (.mv (.t 0)),
    .op .none 7 (.len false (.t 6)),
    .op .none 8 (.bin .gtr (.t 7) (.c (.w (.int .i64 200)))),
    .op .none 9 (.mv (.t 8)),
    .op (.some (9, false)) 10 (.ld false 1 (.t 5)),
    .op (.some (9, false)) 11 (.mv (.t 1)),
    .call (.some (9, false)) 12 (.t 10) [(.t 11)],
    .op .none 13 (.pick (.t 9) (.c (.w (.bool true))) (.t 12)),
    .op .none 14 (.mv (.t 13)),
    .op (.some (14, false)) 15 (.mv (.t 0)),
    .op (.some (14, false)) 16 (.mkf 108 [(.t 5)]),
    .call (.some (14, false)) 17 (.f 107) [(.t 15), (.t 16)],
    .op .none 18 (.pick (.t 14) (.c (.w (.bool true))) (.t 17))]) <|
  .cond (.t 18)
    (.seq (.reg false [.op .none 4 (.mv (.c (.w (.int .i64 3))))]) <|
    .ret)
    (.skip)) <|
  .seq (.reg false [.op .none 4 (.mv (.c (.w (.int .i64 0))))]) <|
  .ret
theorem k72 : FnCode Try.prog 72 [] 19 [4] c72 := ⟨Try.f72, Try.func72, fun xs W => Try.call72 xs W, by kernel_rfl, by kernel_rfl, by kernel_rfl⟩

def lngS4 (s : Bs) : Bool := decide (400 < s.length)
def badF (x : List Bs) : Bool := decide (20 < x.length) || x.any lngS4
def kbF (k : KnownT) : Bool := badF k.1 || badF k.2.1
def knF (l : List KnownT) (w : List Bs) : Int := if 200 < l.length then 3 else if badF w = true then 3 else if l.any kbF = true then 3 else 0
structure knS (l : List KnownT) (w : List Bs) : Prop where
  n : l.length ≤ 200000000000000
  w : wordS w
  k : ∀ k ∈ l, wordS k.1 ∧ wordS k.2.1
theorem fok106 (s : Bs) : FOk Try.prog 106 [.v (txtV s)] [] (.B (lngS4 s)) [] := by
  refine FOk.val k106 (by simp) (by simp) (by decide) ?_
  simp [c106, txtV]
  exact Ends.v rfl (by simp [lngS4])
theorem fok105 (x : List Bs) (hx : x.length ≤ 200000000000000) : FOk Try.prog 105 [.v (.word x)] [] (.B (badF x)) [] := by
  have h1 := fok92 x _ _ _ (fixF0 106) lngS4 (fun s _ => fok106 s) hx
  refine FOk.val k105 (by simp) (by simp) (by decide) ?_
  unfold badF
  simp [c105]
  by_cases h : 20 < x.length
  · have h' : ¬ x.length ≤ 20 := by omega
    simp [h, h']
    exact Ends.v rfl (by simp [h])
  · have h' : x.length ≤ 20 := by omega
    simp [h, h']
    refine CallG.lent rfl rfl rfl rfl h1 rfl ?_
    simp
    exact Ends.v rfl (by simp [h])
theorem fok108 (k : KnownT) (h1 : k.1.length ≤ 200000000000000) (h2 : k.2.1.length ≤ 200000000000000) : FOk Try.prog 108 [.v (knownV k), .rp [.w (.func (.func 105) #[] #[])]] [] (.B (kbF k)) [] := by
  obtain ⟨a, b, u⟩ := k
  simp only at h1 h2
  have r1 := fok105 a h1
  have r2 := fok105 b h2
  refine FOk.val k108 (by simp) (by simp) (by decide) ?_
  unfold kbF
  simp [c108, knownV]
  refine CallG.lent rfl rfl rfl rfl r1 rfl ?_
  cases badF a
  · simp
    refine CallG.lent rfl rfl rfl rfl r2 rfl ?_
    simp
    exact Ends.v rfl (by simp)
  · simp
    exact Ends.v rfl (by simp)
theorem fok114 (l : List KnownT) (u : AV) (f : Nat) (caps : List AV) (hu : Fix u f caps) (p : KnownT → Bool) (hf : ∀ x ∈ l, FOk Try.prog f (.v (knownV x) :: caps) [] (.B (p x)) []) (hl : l.length ≤ 200000000000000) :
    FOk Try.prog 114 [.v (.sl 2 (l.map knownV)), u] [] (.I (idxF p l 0)) [] := by
  have hm := hu.men
  have hcv := hu.conv
  have hpa := hu.pass
  have hfn := hu.fn
  refine FOk.val k114 (by simp) (by simp; intro k h; exact absurd h (hm k)) (by decide) ?_
  simp [c114]
  refine Run.loopA (ι := Nat) [] (fun i => i ≤ l.length ∧ idxF p (l.drop i) i = idxF p l 0) (fun i => ⟨[(0, .v (.sl 2 (l.map knownV))), (1, u), (7, .I l.length), (8, .I i)], [], 1024⟩) (fun i => l.length - i) 0 (by decide) (by simp [hcv]) ⟨by omega, by simp⟩ ?_
  rintro i ⟨hi, hall⟩ ih
  by_cases h : i < l.length
  · rw [drop_at h] at hall
    simp only [idxF] at hall
    have hcall := hf l[i] (List.getElem_mem h)
    generalize hx : l[i] = x at hcall hall
    obtain ⟨xw, xc, xu⟩ := x
    simp (disch := omega) [h, wrap_i64, hx, knownV]
    refine CallG.lent rfl hfn rfl (passAs_cons rfl (hu.passC _ _)) hcall rfl ?_
    simp (disch := omega) [wrap_i64]
    refine ⟨fun hp => ?_, fun hp => ?_⟩
    · simp only [hp, if_true] at hall
      exact Ends.v rfl (by simp [← hall])
    · simp only [hp] at hall
      exact ih (i + 1) _ ⟨by omega, by simpa using hall⟩ (by omega) (by simp [hcv])
  · rw [drop_no h] at hall
    simp [h]
    exact Ends.v rfl (by simp [idxF, ← hall])
theorem fok107 (l : List KnownT) (u : AV) (f : Nat) (caps : List AV) (hu : Fix u f caps) (p : KnownT → Bool) (hf : ∀ x ∈ l, FOk Try.prog f (.v (knownV x) :: caps) [] (.B (p x)) []) (hl : l.length ≤ 200000000000000) :
    FOk Try.prog 107 [.v (.sl 2 (l.map knownV)), u] [] (.B (l.any p)) [] := by
  have hm := hu.men
  have hpa := hu.pass
  refine FOk.val k107 (by simp) (by simp; intro k h; exact absurd h (hm k)) (by decide) ?_
  simp [c107]
  refine CallG.lent rfl rfl rfl (passAs_cons rfl (passAs_cons (hpa _ _) rfl)) (fok114 l u f caps hu p hf hl) rfl ?_
  simp [idxF_ge]
  exact Ends.v rfl (by simp)
theorem fok72 (l : List KnownT) (w : List Bs) (h : knS l w) : FOk Try.prog 72 [.v (.sl 2 (l.map knownV)), .v (.word w)] [] (.I (knF l w)) [] := by
  obtain ⟨hn, hw, hk⟩ := h
  have r1 := fok105 w hw.1
  have r2 := fok107 l _ _ _ (fixFn 108 [.w (.func (.func 105) #[] #[])] [] (by simp) (by simp) (by simp) (by simp)) kbF (fun k hk' => fok108 k (hk k hk').1.1 (hk k hk').2.1) hn
  refine FOk.val k72 (by simp) (by simp) (by decide) ?_
  unfold knF
  simp [c72]
  by_cases q : 200 < l.length
  · have q' : ¬ l.length ≤ 200 := by omega
    simp [q, q']
    exact Ends.v rfl (by simp [q])
  have q' : l.length ≤ 200 := by omega
  simp [q, q']
  refine CallG.lent rfl rfl rfl rfl r1 rfl ?_
  cases badF w
  · simp
    refine CallG.lent rfl rfl rfl rfl r2 rfl ?_
    cases l.any kbF
    · simp
      exact Ends.v rfl (by simp [q])
    · simp
      exact Ends.v rfl (by simp [q])
  · simp
    exact Ends.v rfl (by simp [q])

end Go.Proofs

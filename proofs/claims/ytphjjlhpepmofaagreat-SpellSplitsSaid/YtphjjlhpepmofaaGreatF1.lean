/- The walk. -/
import Derived.Test.YtphjjlhpepmofaaGreatAMZ
import Derived.Test.YtphjjlhpepmofaaGreatProg
import Derived.KernelRfl
set_option linter.all false
set_option maxHeartbeats 2000000
namespace Go.Proofs
open Go Go.AM
attribute [local irreducible] Run Ends
/-- ablaut/syms.isLong -/
def c66 : MC :=
  .seq (.reg false [.op .none 2 (.mv (.c (.w (.bool false))))]) <|
  .seq (.reg false [.op .none 3 (.mv (.t 0)),
    .op .none 4 (.len true (.t 3)),
    .op .none 5 (.bin .gtr (.t 4) (.c (.w (.int .i64 16)))),
    .op .none 2 (.mv (.t 5))]) <|
  .ret
theorem k66 : FnCode Tryz.prog 66 [] 6 [2] c66 := ⟨Tryz.f66, Tryz.func66, fun xs W => Tryz.call66 xs W, by kernel_rfl, by kernel_rfl, by kernel_rfl⟩

/-- ablaut/syms.isSymbol -/
def c68 : MC :=
  .seq (.reg false [.op .none 2 (.mv (.c (.w (.bool false))))]) <|
  .seq (.seq (.reg false [.op .none 4 (.mv (.t 0)),
    .op .none 5 (.len true (.t 4)),
    .op .none 6 (.mv (.c (.w (.int .i64 0))))]) <|
  .block 0 <|
    .loop <|
      .seq (.reg false [.op .none 7 (.bin .lss (.t 6) (.t 5))]) <|
      .seq (.cond (.t 7)
        (.skip)
        (.exit 0)) <|
      .seq (.block 1 <|
        .seq (.reg false [.op .none 8 (.mv (.t 6)),
          .op .none 3 (.mv (.t 8))]) <|
        .seq (.reg false [.op .none 9 (.mv (.t 0)),
          .op .none 10 (.mv (.t 3)),
          .op .none 11 (.six (.t 9) (.t 10)),
          .op .none 12 (.bin .lss (.t 11) (.c (.w (.int .u8 33)))),
          .op .none 13 (.mv (.t 12)),
          .op (.some (13, false)) 14 (.mv (.t 0)),
          .op (.some (13, false)) 15 (.mv (.t 3)),
          .op (.some (13, false)) 16 (.six (.t 14) (.t 15)),
          .op (.some (13, false)) 17 (.bin .gtr (.t 16) (.c (.w (.int .u8 126)))),
          .op .none 18 (.pick (.t 13) (.c (.w (.bool true))) (.t 17)),
          .op .none 19 (.mv (.t 18)),
          .op (.some (19, false)) 20 (.mv (.t 0)),
          .op (.some (19, false)) 21 (.mv (.t 3)),
          .op (.some (19, false)) 22 (.six (.t 20) (.t 21)),
          .op (.some (19, false)) 23 (.bin .eql (.t 22) (.c (.w (.int .u8 60)))),
          .op .none 24 (.pick (.t 19) (.c (.w (.bool true))) (.t 23)),
          .op .none 25 (.mv (.t 24)),
          .op (.some (25, false)) 26 (.mv (.t 0)),
          .op (.some (25, false)) 27 (.mv (.t 3)),
          .op (.some (25, false)) 28 (.six (.t 26) (.t 27)),
          .op (.some (25, false)) 29 (.bin .eql (.t 28) (.c (.w (.int .u8 62)))),
          .op .none 30 (.pick (.t 25) (.c (.w (.bool true))) (.t 29))]) <|
        .cond (.t 30)
          (.seq (.reg false [.op .none 2 (.mv (.c (.w (.bool false))))]) <|
          .ret)
          (.skip)) <|
      .reg false [.op .none 31 (.bin .add (.t 6) (.c (.w (.int .i64 1)))),
        .op .none 6 (.mv (.t 31))]) <|
  .seq (.reg false [.op .none 32 (.mv (.t 0)),
    .op .none 33 (.bin .neq (.t 32) (.c (.w (.string ⟨#[]⟩)))),
    .op .none 2 (.mv (.t 33))]) <|
  .ret
theorem k68 : FnCode Tryz.prog 68 [] 34 [2] c68 := ⟨Tryz.f68, Tryz.func68, fun xs W => Tryz.call68 xs W, by kernel_rfl, by kernel_rfl, by kernel_rfl⟩

/-- ablaut/syms.ValidateWord$1 -/
def c67 : MC :=
  .seq (.reg false [.op .none 2 (.mv (.c (.w (.bool false))))]) <|
  .seq (.reg false [.op .none 3 (.mv (.t 0)),
    .call .none 4 (.f 68) [(.t 3)],
    .op .none 5 (.un .not (.t 4)),
    .op .none 2 (.mv (.t 5))]) <|
  .ret
theorem k67 : FnCode Tryz.prog 67 [] 6 [2] c67 := ⟨Tryz.f67, Tryz.func67, fun xs W => Tryz.call67 xs W, by kernel_rfl, by kernel_rfl, by kernel_rfl⟩

/-- slices.IndexFunc[[]string,string] -/
def c93 : MC :=
  .seq (.reg false [.op .none 4 (.mv (.c (.w (.int .i64 0))))]) <|
  .seq (.seq (.reg false [.op .none 6 (.mv (.t 0)),
    .op .none 7 (.len false (.t 6)),
    .op .none 8 (.mv (.c (.w (.int .i64 0))))]) <|
  .block 0 <|
    .loop <|
      .seq (.reg false [.op .none 9 (.bin .lss (.t 8) (.t 7))]) <|
      .seq (.cond (.t 9)
        (.skip)
        (.exit 0)) <|
      .seq (.block 1 <|
        .seq (.reg false [.op .none 10 (.mv (.t 8)),
          .op .none 5 (.mv (.t 10))]) <|
        .seq (.reg false [.op .none 11 (.mv (.t 1)),
          .op .none 12 (.mv (.t 0)),
          .op .none 13 (.mv (.t 5)),
          .op .none 14 (.ia 1 (.t 12) (.t 13)),
          .op .none 15 (.ld false 1 (.t 14)),
          .call .none 16 (.t 11) [(.t 15)]]) <|
        .cond (.t 16)
          (.seq (.reg false [.op .none 17 (.mv (.t 5)),
            .op .none 4 (.mv (.t 17))]) <|
          .ret)
          (.skip)) <|
      .reg false [.op .none 18 (.bin .add (.t 8) (.c (.w (.int .i64 1)))),
        .op .none 8 (.mv (.t 18))]) <|
  .seq (.reg false [.op .none 4 (.mv (.c (.w (.int .i64 (-1)))))]) <|
  .ret
theorem k93 : FnCode Tryz.prog 93 [] 19 [4] c93 := ⟨Tryz.f93, Tryz.func93, fun xs W => Tryz.call93 xs W, by kernel_rfl, by kernel_rfl, by kernel_rfl⟩

/-- slices.ContainsFunc[[]string,string] -/
def c65 : MC :=
  .seq (.reg false [.op .none 4 (.mv (.c (.w (.bool false))))]) <|
  .seq (.reg false [.op .none 5 (.mv (.t 0)),
    .op .none 6 (.mv (.t 1)),
    .call .none 7 (.f 93) [(.t 5), (.t 6)],
    .op .none 8 (.bin .geq (.t 7) (.c (.w (.int .i64 0)))),
    .op .none 4 (.mv (.t 8))]) <|
  .ret
theorem k65 : FnCode Tryz.prog 65 [] 9 [4] c65 := ⟨Tryz.f65, Tryz.func65, fun xs W => Tryz.call65 xs W, by kernel_rfl, by kernel_rfl, by kernel_rfl⟩

/-- ablaut/syms.ValidateWord -/
def c32 : MC :=
  .seq (.reg false [.op .none 2 (.mv (.c (.w (.int .i64 0))))]) <|
  .seq (.block 0 <|
    .seq (.reg false [.op .none 4 (.mv (.t 0)),
      .op .none 5 (.len false (.t 4)),
      .op .none 6 (.bin .gtr (.t 5) (.c (.w (.int .i64 60)))),
      .op .none 7 (.mv (.t 6)),
      .op (.some (7, false)) 8 (.mv (.t 0)),
      .call (.some (7, false)) 9 (.f 65) [(.t 8), (.f 66)],
      .op .none 10 (.pick (.t 7) (.c (.w (.bool true))) (.t 9)),
      .op .none 3 (.mv (.t 10))]) <|
    .cond (.t 3)
      (.seq (.reg false [.op .none 2 (.mv (.c (.w (.int .i64 3))))]) <|
      .ret)
      (.seq (.reg false [.op .none 12 (.mv (.t 0)),
        .call .none 13 (.f 65) [(.t 12), (.f 67)],
        .op .none 11 (.mv (.t 13))]) <|
      .cond (.t 11)
        (.seq (.reg false [.op .none 2 (.mv (.c (.w (.int .i64 1))))]) <|
        .ret)
        (.skip))) <|
  .seq (.reg false [.op .none 2 (.mv (.c (.w (.int .i64 0))))]) <|
  .ret
theorem k32 : FnCode Tryz.prog 32 [] 14 [2] c32 := ⟨Tryz.f32, Tryz.func32, fun xs W => Tryz.call32 xs W, by kernel_rfl, by kernel_rfl, by kernel_rfl⟩

/-- A byte of a symbol. -/
def symC (c : UInt8) : Bool := !(decide (c.toNat < 33) || decide (126 < c.toNat) || decide (c.toNat = 60) || decide (c.toNat = 62))

theorem fok66 (s : Bs) : FOk Tryz.prog 66 [.S s] [] (.B (decide (16 < s.length))) [] := by
  refine FOk.val k66 (by simp) (by simp) (by decide) ?_
  simp [c66]
  exact Ends.v rfl (by simp)

/-- Not empty, and all its bytes are right. -/
def sym0 (s : Bs) : Bool := s.all symC && !decide (s = [])

theorem fok68 (s : Bs) (hs : s.length ≤ 200000000000000) : FOk Tryz.prog 68 [.S s] [] (.B (sym0 s)) [] := by
  refine FOk.val k68 (by simp) (by simp) (by decide) ?_
  simp [c68]
  refine Run.loopI (ι := Nat) (fun i => i ≤ s.length ∧ (s.drop i).all symC = s.all symC) (fun i => ⟨[(0, .S s), (5, .I s.length), (6, .I i)], [], 1024⟩) (fun i => s.length - i) 0 [] (by decide) (by simp) ⟨by omega, by simp⟩ ?_
  rintro i ⟨hi, hall⟩ ih
  by_cases h : i < s.length
  · rw [drop_at h, List.all_cons] at hall
    simp (disch := omega) [h, wrap_i64]
    repeat' (first | refine And.intro ?_ ?_ | intro _)
    all_goals first
      | (have hc : symC s[i] = true := by simp [symC] <;> omega
         exact ih (i + 1) [] _ ⟨by omega, by simpa [hc] using hall⟩ (by omega) (by simp))
      | (have hc : symC s[i] = false := by simp [symC] <;> omega
         rw [hc, Bool.false_and] at hall
         exact Ends.v rfl (by simp [sym0, ← hall]))
  · rw [drop_no h] at hall
    simp [h]
    exact Ends.v rfl (by simp [sym0, ← hall])

theorem fok67 (s : Bs) (hs : s.length ≤ 200000000000000) : FOk Tryz.prog 67 [.S s] [] (.B (!sym0 s)) [] := by
  refine FOk.val k67 (by simp) (by simp) (by decide) ?_
  simp [c67]
  refine CallG.lent rfl rfl rfl rfl (fok68 s hs) rfl ?_
  simp
  exact Ends.v rfl (by simp)

/-- Where the first one is; -1 if there is none. -/
def idxF {α : Type} (p : α → Bool) : List α → Nat → Int
  | [], _ => -1
  | x :: l, i => if p x = true then (i : Int) else idxF p l (i + 1)

theorem idxF_ge {α : Type} (p : α → Bool) : ∀ (l : List α) (i : Nat), decide (0 ≤ idxF p l i) = l.any p
  | [], i => by simp [idxF]
  | x :: l, i => by
    simp only [idxF, List.any_cons]
    split
    · rename_i h; simp [h]
    · rename_i h; simp [h, idxF_ge p l (i + 1)]

theorem fok93 (w : List Bs) (f : Nat) (p : Bs → Bool) (hf : ∀ s ∈ w, FOk Tryz.prog f [.S s] [] (.B (p s)) []) (hw : w.length ≤ 200000000000000) :
    FOk Tryz.prog 93 [.v (.word w), .fn f []] [] (.I (idxF p w 0)) [] := by
  refine FOk.val k93 (by simp) (by simp) (by decide) ?_
  simp [c93]
  refine Run.loopI (ι := Nat) (fun i => i ≤ w.length ∧ idxF p (w.drop i) i = idxF p w 0) (fun i => ⟨[(0, .v (.word w)), (1, .fn f []), (7, .I w.length), (8, .I i)], [], 1024⟩) (fun i => w.length - i) 0 [] (by decide) (by simp) ⟨by omega, by simp⟩ ?_
  rintro i ⟨hi, hall⟩ ih
  by_cases h : i < w.length
  · rw [drop_at h] at hall
    simp only [idxF] at hall
    simp (disch := omega) [h, wrap_i64]
    refine CallG.lent rfl rfl rfl rfl (hf w[i] (List.getElem_mem h)) rfl ?_
    simp (disch := omega) [wrap_i64]
    refine ⟨fun hp => ?_, fun hp => ?_⟩
    · simp only [hp, if_true] at hall
      exact Ends.v rfl (by simp [← hall])
    · simp only [hp] at hall
      exact ih (i + 1) [] _ ⟨by omega, by simpa using hall⟩ (by omega) (by simp)
  · rw [drop_no h] at hall
    simp [h]
    exact Ends.v rfl (by simp [idxF, ← hall])

theorem fok65 (w : List Bs) (f : Nat) (p : Bs → Bool) (hf : ∀ s ∈ w, FOk Tryz.prog f [.S s] [] (.B (p s)) []) (hw : w.length ≤ 200000000000000) :
    FOk Tryz.prog 65 [.v (.word w), .fn f []] [] (.B (w.any p)) [] := by
  refine FOk.val k65 (by simp) (by simp) (by decide) ?_
  simp [c65]
  refine CallG.lent rfl rfl rfl rfl (fok93 w f p hf hw) rfl ?_
  simp [idxF_ge]
  exact Ends.v rfl (by simp)

def longW (w : List Bs) : Bool := w.any fun s => decide (16 < s.length)
def badW (w : List Bs) : Bool := w.any fun s => !sym0 s
/-- What is wrong with a word: 0 nothing, 1 a symbol is none, 3 too long. -/
def vWord (w : List Bs) : Int := if 60 < w.length then 3 else if longW w = true then 3 else if badW w = true then 1 else 0

theorem fok32 (w : List Bs) (hw : w.length ≤ 200000000000000) (hs : ∀ s ∈ w, s.length ≤ 200000000000000) : FOk Tryz.prog 32 [.v (.word w)] [] (.I (vWord w)) [] := by
  have h1 : FOk Tryz.prog 65 [.v (.word w), .fn 66 []] [] (.B (longW w)) [] := fok65 w 66 _ (fun s _ => fok66 s) hw
  have h2 : FOk Tryz.prog 65 [.v (.word w), .fn 67 []] [] (.B (badW w)) [] := fok65 w 67 _ (fun s h => fok67 s (hs s h)) hw
  refine FOk.val k32 (by simp) (by simp) (by decide) ?_
  simp [c32]
  refine ⟨fun h => ?_, fun h => ?_⟩
  · refine CallG.lent rfl rfl rfl rfl h1 rfl ?_
    simp
    refine ⟨fun hl => Ends.v rfl (by simp [vWord, hl]), fun hl => ?_⟩
    refine CallG.lent rfl rfl rfl rfl h2 rfl ?_
    simp
    exact ⟨fun hb => Ends.v rfl (by simp [vWord, hl, hb]; omega), fun hb => Ends.v rfl (by simp [vWord, hl, hb]; omega)⟩
  · exact Ends.v rfl (by simp [vWord, h])


end Go.Proofs

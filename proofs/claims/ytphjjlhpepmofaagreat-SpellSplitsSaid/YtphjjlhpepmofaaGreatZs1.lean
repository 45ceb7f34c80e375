/- The walk. -/
import Derived.Test.YtphjjlhpepmofaaGreatR1
import Derived.Test.YtphjjlhpepmofaaGreatSo
import Derived.Test.YtphjjlhpepmofaaGreatF2
import Derived.Test.YtphjjlhpepmofaaGreatAM35
import Derived.Test.YtphjjlhpepmofaaGreatSCz
import Derived.Test.YtphjjlhpepmofaaGreatSDz
import Derived.Test.YtphjjlhpepmofaaGreatProg
import Derived.KernelRfl
set_option linter.all false
set_option maxHeartbeats 2000000
namespace Go.Proofs
open Go Go.AM
attribute [local irreducible] Run Ends
/-- slices.Clone[[]string,string] -/
def c34 : MC :=
  .seq (.reg false [.op .none 2 (.nilS 1)]) <|
  .seq (.seq (.reg false [.op .none 3 (.mv (.t 0)),
    .op .none 4 (.nilq false (.t 3))]) <|
  .cond (.t 4)
    (.seq (.reg false [.op .none 2 (.nilS 1)]) <|
    .ret)
    (.skip)) <|
  .seq (.reg false [.op .none 5 (.buildS false 1 0 false [(.w (.string ⟨#[]⟩))] []),
    .op .none 6 (.mv (.t 0)),
    .op .none 7 (.app 1 16 (.t 5) (.t 6)),
    .op .none 2 (.mv (.t 7))]) <|
  .ret
theorem k34 : FnCode Tryz.prog 34 [] 8 [2] c34 := ⟨Tryz.f34, Tryz.func34, fun xs W => Tryz.call34 xs W, by kernel_rfl, by kernel_rfl, by kernel_rfl⟩

/-- slices.Equal[[]string,string] -/
def c55 : MC :=
  .seq (.reg false [.op .none 4 (.mv (.c (.w (.bool false))))]) <|
  .seq (.seq (.reg false [.op .none 6 (.mv (.t 0)),
    .op .none 7 (.len false (.t 6)),
    .op .none 8 (.mv (.t 1)),
    .op .none 9 (.len false (.t 8)),
    .op .none 10 (.bin .neq (.t 7) (.t 9))]) <|
  .cond (.t 10)
    (.seq (.reg false [.op .none 4 (.mv (.c (.w (.bool false))))]) <|
    .ret)
    (.skip)) <|
  .seq (.seq (.reg false [.op .none 11 (.mv (.t 0)),
    .op .none 12 (.len false (.t 11)),
    .op .none 13 (.mv (.c (.w (.int .i64 0))))]) <|
  .block 0 <|
    .loop <|
      .seq (.reg false [.op .none 14 (.bin .lss (.t 13) (.t 12))]) <|
      .seq (.cond (.t 14)
        (.skip)
        (.exit 0)) <|
      .seq (.block 1 <|
        .seq (.reg false [.op .none 15 (.mv (.t 13)),
          .op .none 5 (.mv (.t 15))]) <|
        .seq (.reg true [.op .none 16 (.mv (.t 0)),
          .op .none 17 (.mv (.t 5)),
          .op .none 18 (.ia 1 (.t 16) (.t 17)),
          .op .none 19 (.ld false 1 (.t 18)),
          .op .none 20 (.mv (.t 1)),
          .op .none 21 (.mv (.t 5)),
          .op .none 22 (.ia 1 (.t 20) (.t 21)),
          .op .none 23 (.ld false 1 (.t 22)),
          .op .none 24 (.bin .neq (.t 19) (.t 23))]) <|
        .cond (.t 24)
          (.seq (.reg false [.op .none 4 (.mv (.c (.w (.bool false))))]) <|
          .ret)
          (.skip)) <|
      .reg false [.op .none 25 (.bin .add (.t 13) (.c (.w (.int .i64 1)))),
        .op .none 13 (.mv (.t 25))]) <|
  .seq (.reg false [.op .none 4 (.mv (.c (.w (.bool true))))]) <|
  .ret
theorem k55 : FnCode Tryz.prog 55 [] 26 [4] c55 := ⟨Tryz.f55, Tryz.func55, fun xs W => Tryz.call55 xs W, by kernel_rfl, by kernel_rfl, by kernel_rfl⟩

/-- slices.CompactFunc[[][]string,[]string] -/
def c82 : MC :=
  .seq (.reg false [.op .none 4 (.nilS 1)]) <|
  .seq (.seq (.reg false [.op .none 8 (.mv (.t 0)),
    .op .none 9 (.len false (.t 8)),
    .op .none 10 (.bin .lss (.t 9) (.c (.w (.int .i64 2))))]) <|
  .cond (.t 10)
    (.seq (.reg false [.op .none 11 (.mv (.t 0)),
      .op .none 4 (.mv (.t 11))]) <|
    .ret)
    (.skip)) <|
  .seq (.seq (.reg false [.op .none 5 (.mv (.c (.w (.int .i64 1))))]) <|
  .block 0 <|
    .loop <|
      .seq (.seq (.reg false [.op .none 12 (.mv (.t 5)),
        .op .none 13 (.mv (.t 0)),
        .op .none 14 (.len false (.t 13)),
        .op .none 15 (.bin .lss (.t 12) (.t 14))]) <|
      .cond (.t 15)
        (.skip)
        (.exit 0)) <|
      .seq (.block 1 <|
        .seq (.reg true [.op .none 18 (.mv (.t 1)),
          .op .none 19 (.mv (.t 0)),
          .op .none 20 (.mv (.t 5)),
          .op .none 21 (.ia 1 (.t 19) (.t 20)),
          .op .none 22 (.ld false 1 (.t 21)),
          .op .none 23 (.mv (.t 0)),
          .op .none 24 (.mv (.t 5)),
          .op .none 25 (.bin .sub (.t 24) (.c (.w (.int .i64 1)))),
          .op .none 26 (.ia 1 (.t 23) (.t 25)),
          .op .none 27 (.ld false 1 (.t 26)),
          .call .none 28 (.t 18) [(.t 22), (.t 27)]]) <|
        .cond (.t 28)
          (.seq (.reg false [.op .none 29 (.mv (.t 0)),
            .op .none 30 (.mv (.t 5)),
            .op .none 31 (.slcP 1 (.t 29) (.some (.t 30)) .none),
            .op .none 6 (.mv (.t 31))]) <|
          .seq (.seq (.reg false [.op .none 7 (.mv (.c (.w (.int .i64 1))))]) <|
          .block 2 <|
            .loop <|
              .seq (.seq (.reg false [.op .none 32 (.mv (.t 7)),
                .op .none 33 (.mv (.t 6)),
                .op .none 34 (.len false (.t 33)),
                .op .none 35 (.bin .lss (.t 32) (.t 34))]) <|
              .cond (.t 35)
                (.skip)
                (.exit 2)) <|
              .seq (.block 3 <|
                .seq (.reg true [.op .none 38 (.mv (.t 1)),
                  .op .none 39 (.mv (.t 6)),
                  .op .none 40 (.mv (.t 7)),
                  .op .none 41 (.ia 1 (.t 39) (.t 40)),
                  .op .none 42 (.ld false 1 (.t 41)),
                  .op .none 43 (.mv (.t 6)),
                  .op .none 44 (.mv (.t 7)),
                  .op .none 45 (.bin .sub (.t 44) (.c (.w (.int .i64 1)))),
                  .op .none 46 (.ia 1 (.t 43) (.t 45)),
                  .op .none 47 (.ld false 1 (.t 46)),
                  .call .none 48 (.t 38) [(.t 42), (.t 47)],
                  .op .none 49 (.un .not (.t 48))]) <|
                .cond (.t 49)
                  (.seq (.reg false [.op .none 50 (.mv (.t 0)),
                    .op .none 51 (.mv (.t 5)),
                    .op .none 52 (.mv (.t 6)),
                    .op .none 53 (.mv (.t 7)),
                    .op .none 54 (.ia 1 (.t 52) (.t 53)),
                    .op .none 55 (.ld false 1 (.t 54)),
                    .op .none 56 (.ia 1 (.t 50) (.t 51)),
                    .store .none (.stt false 1 (.t 56) (.t 55))]) <|
                  .reg false [.op .none 57 (.mv (.t 5)),
                    .op .none 58 (.bin .add (.t 57) (.c (.w (.int .i64 1)))),
                    .op .none 5 (.mv (.t 58))])
                  (.skip)) <|
              .reg false [.op .none 36 (.mv (.t 7)),
                .op .none 37 (.bin .add (.t 36) (.c (.w (.int .i64 1)))),
                .op .none 7 (.mv (.t 37))]) <|
          .seq (.reg false [.op .none 59 (.mv (.t 0)),
            .op .none 60 (.mv (.t 5)),
            .op .none 61 (.slcP 1 (.t 59) (.some (.t 60)) .none),
            .op .none 1023 (.clr 1 false [(.sl 1 [])] (.t 61))]) <|
          .seq (.reg false [.op .none 62 (.mv (.t 0)),
            .op .none 63 (.mv (.t 5)),
            .op .none 64 (.slc true 1 (.t 62) .none (.some (.t 63))),
            .op .none 4 (.mv (.t 64))]) <|
          .ret)
          (.skip)) <|
      .reg false [.op .none 16 (.mv (.t 5)),
        .op .none 17 (.bin .add (.t 16) (.c (.w (.int .i64 1)))),
        .op .none 5 (.mv (.t 17))]) <|
  .seq (.reg false [.op .none 65 (.mv (.t 0)),
    .op .none 4 (.mv (.t 65))]) <|
  .ret
theorem k82 : FnCode Tryz.prog 82 [64, 200031, 200061] 66 [4] c82 := ⟨Tryz.f82, Tryz.func82, fun xs W => Tryz.call82 xs W, by kernel_rfl, by kernel_rfl, by kernel_rfl⟩

theorem fok34 (w : List Bs) (hw : w.length ≤ 1000000000) : FOk Tryz.prog 34 [.v (.word w)] [] (.v (.word w)) [] := by
  refine FOk.val k34 (by simp) (by simp) (by decide) ?_
  rcases w with _ | ⟨s, w⟩
  · simp [c34]
    exact ⟨Ends.v rfl (by simp), Ends.v rfl (by simp)⟩
  · have h2 : (w.length + 1 + 1000) * 16 ≤ 70368744177664 := by simp at hw; omega
    simp [c34, h2]
    exact Ends.v rfl (by simp)

theorem fok55 (w v : List Bs) (hw : w.length ≤ 200000000000000) : FOk Tryz.prog 55 [.v (.word w), .v (.word v)] [] (.B (decide (w = v))) [] := by
  refine FOk.val k55 (by simp) (by simp) (by decide) ?_
  simp [c55]
  refine ⟨fun hl => Ends.v rfl (by simp; rintro rfl; exact hl rfl), fun hl => ?_⟩
  refine Run.loopA (ι := Nat) [] (fun i => i ≤ w.length ∧ w.take i = v.take i) (fun i => ⟨[(0, .v (.word w)), (1, .v (.word v)), (12, .I w.length), (13, .I i)], [], 1024⟩) (fun i => w.length - i) 0 (by decide) (by simp) ⟨by omega, by simp⟩ ?_
  rintro i ⟨hi, hp⟩ ih
  by_cases h : i < w.length
  · have h' : i < v.length := by omega
    have hg : (w.map fun s => PV.w (.string (bs s)))[i]? = some (.w (.string (bs w[i]))) := by simp [List.getElem?_eq_getElem h]
    have hg' : (v.map fun s => PV.w (.string (bs s)))[i]? = some (.w (.string (bs v[i]))) := by simp [List.getElem?_eq_getElem h']
    by_cases he : w[i] = v[i]
    · have hn : w.take (i + 1) = v.take (i + 1) := by rw [List.take_succ_eq_append_getElem h, List.take_succ_eq_append_getElem h', hp, he]
      rw [he] at hg
      simp (disch := omega) [h, h', hg, hg', wrap_i64]
      exact ih (i + 1) _ ⟨by omega, hn⟩ (by omega) (by simp)
    · have hne : decide (w = v) = false := by simp; rintro rfl; exact he rfl
      generalize w[i] = x at hg he
      generalize v[i] = y at hg' he
      simp (disch := omega) [h, h', hg, hg', he, wrap_i64]
      exact Ends.v rfl (by simp [hne])
  · have : w = v := by rw [List.take_of_length_le (by omega), List.take_of_length_le (by omega)] at hp; exact hp
    simp (disch := omega) [h, wrap_i64]
    exact Ends.v rfl (by simp [this])
theorem cpct_short {α : Type} [DecidableEq α] {l : List α} (h : l.length < 2) : cpct l = l := by
  rcases l with _ | ⟨a, _ | ⟨b, l⟩⟩
  · rfl
  · rfl
  · simp at h; omega
theorem cpct_take {α : Type} [DecidableEq α] {l : List α} {j : Nat} (h0 : 1 ≤ j) (h : j < l.length) : cpct (l.take (j + 1)) = if l[j - 1] = l[j] then cpct (l.take j) else cpct (l.take j) ++ [l[j]] := by
  obtain ⟨j, rfl⟩ : ∃ k, j = k + 1 := ⟨j - 1, by omega⟩
  rw [List.take_succ_eq_append_getElem h]
  have e : l.take (j + 1) = l.take j ++ [l[j]] := List.take_succ_eq_append_getElem (by omega)
  simp only [e, List.append_assoc, List.cons_append, List.nil_append, Nat.add_sub_cancel]
  exact cpct_snoc _ _ _
theorem fok82 (l : List (List Bs)) (hl : l.length ≤ 1000000000) (hw : ∀ w ∈ l, w.length ≤ 1000000000) : FOk Tryz.prog 82 [.h 0, .fn 55 []] [(0, ⟨false, 1, l.map PV.word⟩)] (.h 1) [(1, ⟨false, 1, (cpct l).map PV.word⟩)] := by
  have hc := fun i (h : i < l.length) j (h' : j < l.length) => fok55 l[i] l[j] (by have := hw _ (List.getElem_mem h); omega)
  refine FOk.of k82 1 (by simp) (by decide) (by simp) (by simp) (by simp [find]; rintro _ _ _ rfl rfl _ rfl; rfl) (by decide) ?_
  by_cases h2 : l.length < 2
  · simp [c82, h2]
    exact Ends.moved 9 0 (by decide) rfl rfl (by simp) (by simp [cpct_short h2])
  simp [c82, h2]
  refine Run.loopA (ι := Nat) [(0, 0)] (fun i => 1 ≤ i ∧ i ≤ l.length ∧ cpct (l.take i) = l.take i) (fun i => ⟨[(0, .h 0), (1, .fn 55 []), (5, .I i)], [(0, ⟨false, 1, l.map PV.word⟩)], 1024⟩) (fun i => l.length - i) 1 (by decide) (by simp) ⟨by omega, by omega, cpct_short (by simp; omega)⟩ ?_
  rintro i ⟨hi0, hi, hp⟩ ih
  by_cases h : i < l.length
  · have hi1 : i - 1 < l.length := by omega
    have hq := cpct_take hi0 h
    simp (disch := omega) [h, wrap_i64, hi0]
    refine CallG.lent rfl rfl rfl rfl (hc i h (i - 1) hi1) rfl ?_
    by_cases hd : l[i - 1] = l[i]
    · rw [if_pos hd] at hq
      have hil : i ≤ l.length := by omega
      simp (disch := omega) [wrap_i64, hd, h, hil]
      refine Run.loopA (ι := Nat × List PV) [(0, 0)] (fun q => 1 ≤ q.1 ∧ i + q.1 ≤ l.length ∧ q.2.length = l.length ∧ (cpct (l.take (i + q.1))).length + 1 ≤ i + q.1 ∧ q.2.take (cpct (l.take (i + q.1))).length = (cpct (l.take (i + q.1))).map PV.word ∧ q.2.drop (i + q.1 - 1) = (l.map PV.word).drop (i + q.1 - 1) ∧ ∀ p ∈ q.2, ∃ w, p = PV.word w)
        (fun q => ⟨[(0, .h 0), (1, .fn 55 []), (5, .I (cpct (l.take (i + q.1))).length), (6, .sub 0 i (l.length - i)), (7, .I q.1)], [(0, ⟨false, 1, q.2⟩)], 1024⟩) (fun q => l.length - q.1) (1, l.map PV.word) (by decide) (by simp [hq, hp]; omega) ⟨by omega, by omega, by simp, by simp [hq, hp]; omega, by simp [hq, hp], rfl, fun p hp => by obtain ⟨w, _, rfl⟩ := List.mem_map.1 hp; exact ⟨w, rfl⟩⟩ ?_
      rintro ⟨k2, R⟩ ⟨g1, g2, g3, g4, g5, g6, g7⟩ ih2
      simp only at g1 g2 g3 g4 g5 g6 g7
      by_cases hk : i + k2 < l.length
      · have hq2 := cpct_take (l := l) (j := i + k2) (by omega) hk
        have hR1 : R[i + k2]? = some (PV.word l[i + k2]) := by
          have := congrArg (·[1]?) g6
          simp only [List.getElem?_drop] at this
          rw [show i + k2 - 1 + 1 = i + k2 by omega] at this
          rw [this]; simp [hk]
        have hj1 : i + k2 - 1 < l.length := by omega
        have hR2 : R[i + k2 - 1]? = some (PV.word l[i + k2 - 1]) := by
          have := congrArg (·[0]?) g6
          simp only [List.getElem?_drop, Nat.add_zero] at this
          rw [this]; simp [hj1]
        have e1 : k2 < l.length - i := by omega
        have e2 : ¬ l.length ≤ k2 + i := by omega
        have e3 : (k2 : Int) - 1 < ((l.length - i : Nat) : Int) := by omega
        have e4 : i + (k2 - 1) = i + k2 - 1 := by omega
        have e5 : (cpct (l.take (i + k2))).length < R.length := by omega
        obtain ⟨b1, b1'⟩ := List.getElem?_eq_some_iff.1 hR1
        obtain ⟨b2, b2'⟩ := List.getElem?_eq_some_iff.1 hR2
        simp (disch := omega) [wrap_i64, e1, e2, e3, e4, g1, b1, b1', b2, b2']
        refine CallG.lent rfl rfl rfl rfl (hc (i + k2) hk (i + k2 - 1) hj1) rfl ?_
        by_cases hd2 : l[i + k2 - 1] = l[i + k2]
        · rw [if_pos hd2] at hq2
          simp (disch := omega) [wrap_i64, hd2]
          have hs : i + (k2 + 1) = i + k2 + 1 := by omega
          refine ih2 (k2 + 1, R) _ ⟨by omega, by omega, g3, by simp only [hs, hq2]; omega, by simp only [hs, hq2]; exact g5, ?_, g7⟩ (by omega) (by simp [hs, hq2])
          have := congrArg (·.drop 1) g6
          simp only [List.drop_drop] at this
          rw [show i + k2 - 1 + 1 = i + k2 by omega] at this
          rw [hs, Nat.add_sub_cancel]; exact this
        · rw [if_neg hd2] at hq2
          have hd2' : ¬ l[i + k2] = l[i + k2 - 1] := fun e => hd2 e.symm
          obtain ⟨w0, hw0⟩ := g7 _ (List.getElem_mem e5)
          simp (disch := omega) [wrap_i64, hd2', e1, e5, b1, b1', hw0]
          have hs : i + (k2 + 1) = i + k2 + 1 := by omega
          refine ih2 (k2 + 1, R.set (cpct (l.take (i + k2))).length (PV.word l[i + k2])) _ ⟨by omega, by omega, by simpa using g3, ?_, ?_, ?_, ?_⟩ (by omega) ?_
          · simp only [hs, hq2]; simp; omega
          · simp only [hs, hq2]
            rw [List.length_append, List.length_singleton, List.take_succ_eq_append_getElem (by simpa using e5), List.take_set_of_le (Nat.le_refl _), g5]
            simp
          · simp only [hs, Nat.add_sub_cancel]
            have := congrArg (·.drop 1) g6
            simp only [List.drop_drop] at this
            rw [show i + k2 - 1 + 1 = i + k2 by omega] at this
            rw [← this, List.drop_set_of_lt (by omega)]
          · intro p hp
            rcases List.mem_or_eq_of_mem_set hp with hp | rfl
            · exact g7 p hp
            · exact ⟨_, rfl⟩
          · simp [hs, hq2]
      · have e1 : ¬ k2 < l.length - i := by omega
        have e2 : l.length ≤ k2 + i := by omega
        have e3 : (cpct (l.take (i + k2))).length ≤ R.length := by omega
        have e4 : (cpct (l.take (i + k2))).length < R.length := by omega
        have e5 : ¬ R.length - (cpct (l.take (i + k2))).length = 0 := by omega
        have e6 : (cpct (l.take (i + k2))).length + (R.length - (cpct (l.take (i + k2))).length) ≤ R.length := by omega
        simp (disch := omega) [wrap_i64, e1, e2, e3, e4, e5, e6]
        have hj : i + k2 = l.length := by omega
        rw [hj, List.take_length] at g5 ⊢
        exact Ends.moved 0 17472 (by decide) rfl rfl (by simp) (by simp [g5])
    · rw [if_neg hd] at hq
      have hd' : ¬ l[i] = l[i - 1] := fun e => hd e.symm
      simp (disch := omega) [wrap_i64, hd']
      exact ih (i + 1) _ ⟨by omega, by omega, by rw [hq, hp, List.take_succ_eq_append_getElem h]⟩ (by omega) (by simp)
  · have : i = l.length := by omega
    subst this
    rw [List.take_length] at hp
    simp
    exact Ends.moved 9 0 (by decide) rfl rfl (by simp) (by simp [hp])

def decB : PV → Bs | .w (.string b) => b.data.toList | _ => []
def decW : PV → List Bs | .sl _ l => l.map decB | _ => []
theorem decW_word (w : List Bs) : decW (PV.word w) = w := by
  simp only [PV.word, decW, List.map_map]
  conv => rhs; rw [← List.map_id w]
  apply List.map_congr_left
  intro s _
  simp [decB]

def wsS (l : List (List Bs)) : Prop := l.length ≤ 1000000000 ∧ ∀ w ∈ l, w.length ≤ 1000000000
theorem wsS.srtW {l : List (List Bs)} (h : wsS l) : wsS (srt cmpW l) := ⟨by rw [srt_len]; exact h.1, fun w hw => h.2 w ((srt_mem l w).1 hw)⟩
theorem fok56 (l : List (List Bs)) (h : wsS l) : FOk Tryz.prog 56 [.h 0, .fn 70 []] [(0, ⟨false, 1, l.map PV.word⟩)] (.tup []) [(0, ⟨false, 1, (srt cmpW l).map PV.word⟩)] := by
  refine FOk.sort1 Tryz.laysF56 (caps := []) (fun p => ∃ w : List Bs, w.length ≤ 1000000000 ∧ p = PV.word w) (fun p q => cmpW (decW p) (decW q)) ?_ ?_ ?_ ?_ ?_ ?_ (by have := h.1; simp; omega)
  · intro p hp
    obtain ⟨w, hw, rfl⟩ := List.mem_map.1 hp
    exact ⟨⟨w, h.2 w hw, rfl⟩, rfl⟩
  · rintro _ _ ⟨w, hw, rfl⟩ ⟨v, hv, rfl⟩
    rw [decW_word, decW_word]
    exact fok70 w v (by omega) (by omega)
  · intro p _; exact linW.irr _
  · intro p q r _ _ _ h1 h2; exact linW.tr h1 h2
  · intro p q r _ _ _ h1 h2; exact linW.le_tr h2 h1
  · intro m hm hs
    exact srt_pv linW decW_word hm hs

end Go.Proofs

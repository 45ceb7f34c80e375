/- The walk. -/
import Derived.Test.YtphjjlhpepmofaaF3
import Derived.Test.YtphjjlhpepmofaaPl23
import Derived.Test.YtphjjlhpepmofaaProg
import Derived.KernelRfl
set_option linter.all false
set_option maxHeartbeats 2000000
namespace Go.Proofs
open Go Go.AM
attribute [local irreducible] Run Ends
/-- ablaut/spell.played -/
def c47 : MC :=
  .seq (.reg false [.op .none 4 (.nilS 1),
    .op .none 5 (.mv (.c (.w (.int .i64 0)))),
    .op .none 6 (.mv (.c (.w (.bool false))))]) <|
  .seq (.reg false [.op .none 7 (.nilS 1)]) <|
  .seq (.reg false [.op .none 8 (.mv (.c (.w (.int .i64 0))))]) <|
  .seq (.seq (.reg false [.op .none 12 (.mv (.t 1)),
    .op .none 13 (.len false (.t 12)),
    .op .none 14 (.mv (.c (.w (.int .i64 0))))]) <|
  .block 0 <|
    .loop <|
      .seq (.reg false [.op .none 15 (.bin .lss (.t 14) (.t 13))]) <|
      .seq (.cond (.t 15)
        (.skip)
        (.exit 0)) <|
      .seq (.block 1 <|
        .seq (.reg false [.op .none 16 (.ia 3 (.t 12) (.t 14)),
          .op .none 17 (.ld true 3 (.t 16)),
          .op .none 10 (.alloc true [(.w (.int .i64 0)), (.w (.int .i64 0)), (.w (.string ⟨#[]⟩))]),
          .store .none (.stt true 3 (.t 10) (.t 17))]) <|
        .seq (.reg false [.op .none 18 (.fa 0 (.t 10)),
          .op .none 19 (.ld false 1 (.t 18)),
          .op .none 20 (.bin .eql (.t 19) (.c (.w (.int .i64 2)))),
          .op .none 21 (.mv (.t 20)),
          .op (.some (21, false)) 22 (.fa 0 (.t 10)),
          .op (.some (21, false)) 23 (.ld false 1 (.t 22)),
          .op (.some (21, false)) 24 (.bin .eql (.t 23) (.c (.w (.int .i64 3)))),
          .op .none 25 (.pick (.t 21) (.c (.w (.bool true))) (.t 24)),
          .op .none 11 (.mv (.t 25))]) <|
        .seq (.seq (.reg false [.op .none 26 (.fa 1 (.t 10)),
          .op .none 27 (.ld false 1 (.t 26)),
          .op .none 28 (.mv (.t 8)),
          .op .none 29 (.bin .neq (.t 27) (.t 28)),
          .op .none 30 (.mv (.t 29)),
          .op (.some (30, false)) 31 (.mv (.t 11)),
          .op (.some (30, false)) 32 (.fa 2 (.t 10)),
          .op (.some (30, false)) 33 (.ld false 1 (.t 32)),
          .call (.some (30, false)) 34 (.f 40) [(.t 33)],
          .op (.some (30, false)) 35 (.eqb true (.t 31) (.t 34)),
          .op .none 36 (.pick (.t 30) (.c (.w (.bool true))) (.t 35)),
          .op .none 37 (.mv (.t 36)),
          .op (.some (37, false)) 38 (.mv (.t 11)),
          .op (.some (37, false)) 39 (.un .not (.t 38)),
          .op (.some (37, false)) 40 (.mv (.t 39)),
          .op (.some (40, true)) 41 (.fa 2 (.t 10)),
          .op (.some (40, true)) 42 (.ld false 1 (.t 41)),
          .op (.some (40, true)) 43 (.bin .neq (.t 42) (.c (.w (.string ⟨#[]⟩)))),
          .op (.some (37, false)) 44 (.pick (.t 40) (.t 43) (.c (.w (.bool false)))),
          .op .none 45 (.pick (.t 37) (.c (.w (.bool true))) (.t 44)),
          .op .none 46 (.mv (.t 45)),
          .op (.some (46, false)) 47 (.fa 0 (.t 10)),
          .op (.some (46, false)) 48 (.ld false 1 (.t 47)),
          .op (.some (46, false)) 49 (.bin .neq (.t 48) (.c (.w (.int .i64 2)))),
          .op (.some (46, false)) 50 (.mv (.t 49)),
          .op (.some (50, true)) 51 (.mv (.t 8)),
          .op (.some (50, true)) 52 (.mv (.t 0)),
          .op (.some (50, true)) 53 (.len false (.t 52)),
          .op (.some (50, true)) 54 (.bin .geq (.t 51) (.t 53)),
          .op (.some (46, false)) 55 (.pick (.t 50) (.t 54) (.c (.w (.bool false)))),
          .op .none 56 (.pick (.t 46) (.c (.w (.bool true))) (.t 55))]) <|
        .cond (.t 56)
          (.seq (.reg false [.op .none 4 (.nilS 1),
            .op .none 5 (.mv (.c (.w (.int .i64 0)))),
            .op .none 6 (.mv (.c (.w (.bool false))))]) <|
          .ret)
          (.skip)) <|
        .seq (.reg false [.op .none 57 (.fa 0 (.t 10)),
          .op .none 58 (.ld false 1 (.t 57))]) <|
        .block 2 <|
          .seq (.reg false [.op .none 60 (.bin .eql (.t 58) (.c (.w (.int .i64 0)))),
            .op .none 59 (.mv (.t 60))]) <|
          .cond (.t 59)
            (.seq (.reg false [.op .none 61 (.mv (.t 7)),
              .op .none 62 (.mv (.t 0)),
              .op .none 63 (.mv (.t 8)),
              .op .none 64 (.ia 1 (.t 62) (.t 63)),
              .op .none 65 (.ld false 1 (.t 64)),
              .op .none 66 (.buildS false 1 1 false [(.w (.string ⟨#[]⟩))] [(0, (.t 65))]),
              .op .none 67 (.app 1 16 (.t 61) (.t 66)),
              .op .none 7 (.mv (.t 67))]) <|
            .reg false [.op .none 68 (.mv (.t 8)),
              .op .none 69 (.bin .add (.t 68) (.c (.w (.int .i64 1)))),
              .op .none 8 (.mv (.t 69))])
            (.seq (.reg false [.op .none 71 (.bin .eql (.t 58) (.c (.w (.int .i64 1)))),
              .op .none 70 (.mv (.t 71))]) <|
            .cond (.t 70)
              (.reg false [.op .none 72 (.mv (.t 8)),
                .op .none 73 (.bin .add (.t 72) (.c (.w (.int .i64 1)))),
                .op .none 8 (.mv (.t 73))])
              (.seq (.reg false [.op .none 75 (.bin .eql (.t 58) (.c (.w (.int .i64 2)))),
                .op .none 74 (.mv (.t 75))]) <|
              .cond (.t 74)
                (.reg false [.op .none 76 (.mv (.t 7)),
                  .op .none 77 (.fa 2 (.t 10)),
                  .op .none 78 (.ld false 1 (.t 77)),
                  .op .none 79 (.buildS false 1 1 false [(.w (.string ⟨#[]⟩))] [(0, (.t 78))]),
                  .op .none 80 (.app 1 16 (.t 76) (.t 79)),
                  .op .none 7 (.mv (.t 80))])
                (.seq (.reg false [.op .none 82 (.bin .eql (.t 58) (.c (.w (.int .i64 3)))),
                  .op .none 81 (.mv (.t 82))]) <|
                .cond (.t 81)
                  (.seq (.seq (.reg true [.op .none 83 (.fa 2 (.t 10)),
                    .op .none 84 (.ld false 1 (.t 83)),
                    .op .none 85 (.mv (.t 0)),
                    .op .none 86 (.mv (.t 8)),
                    .op .none 87 (.ia 1 (.t 85) (.t 86)),
                    .op .none 88 (.ld false 1 (.t 87)),
                    .op .none 89 (.bin .eql (.t 84) (.t 88))]) <|
                  .cond (.t 89)
                    (.seq (.reg false [.op .none 4 (.nilS 1),
                      .op .none 5 (.mv (.c (.w (.int .i64 0)))),
                      .op .none 6 (.mv (.c (.w (.bool false))))]) <|
                    .ret)
                    (.skip)) <|
                  .seq (.reg false [.op .none 90 (.mv (.t 7)),
                    .op .none 91 (.fa 2 (.t 10)),
                    .op .none 92 (.ld false 1 (.t 91)),
                    .op .none 93 (.buildS false 1 1 false [(.w (.string ⟨#[]⟩))] [(0, (.t 92))]),
                    .op .none 94 (.app 1 16 (.t 90) (.t 93)),
                    .op .none 7 (.mv (.t 94))]) <|
                  .reg false [.op .none 95 (.mv (.t 8)),
                    .op .none 96 (.bin .add (.t 95) (.c (.w (.int .i64 1)))),
                    .op .none 8 (.mv (.t 96))])
                  (.seq (.reg false [.op .none 98 (.bin .eql (.t 58) (.c (.w (.int .i64 4)))),
                    .op .none 97 (.mv (.t 98))]) <|
                  .cond (.t 97)
                    (.seq (.seq (.reg true [.op .none 99 (.mv (.t 8)),
                      .op .none 100 (.bin .add (.t 99) (.c (.w (.int .i64 1)))),
                      .op .none 101 (.mv (.t 0)),
                      .op .none 102 (.len false (.t 101)),
                      .op .none 103 (.bin .geq (.t 100) (.t 102)),
                      .op .none 104 (.mv (.t 103)),
                      .op (.some (104, false)) 105 (.mv (.t 0)),
                      .op (.some (104, false)) 106 (.mv (.t 8)),
                      .op (.some (104, false)) 107 (.ia 1 (.t 105) (.t 106)),
                      .op (.some (104, false)) 108 (.ld false 1 (.t 107)),
                      .op (.some (104, false)) 109 (.mv (.t 0)),
                      .op (.some (104, false)) 110 (.mv (.t 8)),
                      .op (.some (104, false)) 111 (.bin .add (.t 110) (.c (.w (.int .i64 1)))),
                      .op (.some (104, false)) 112 (.ia 1 (.t 109) (.t 111)),
                      .op (.some (104, false)) 113 (.ld false 1 (.t 112)),
                      .op (.some (104, false)) 114 (.bin .eql (.t 108) (.t 113)),
                      .op .none 115 (.pick (.t 104) (.c (.w (.bool true))) (.t 114))]) <|
                    .cond (.t 115)
                      (.seq (.reg false [.op .none 4 (.nilS 1),
                        .op .none 5 (.mv (.c (.w (.int .i64 0)))),
                        .op .none 6 (.mv (.c (.w (.bool false))))]) <|
                      .ret)
                      (.skip)) <|
                    .seq (.reg true [.op .none 116 (.mv (.t 7)),
                      .op .none 117 (.mv (.t 0)),
                      .op .none 118 (.mv (.t 8)),
                      .op .none 119 (.bin .add (.t 118) (.c (.w (.int .i64 1)))),
                      .op .none 120 (.ia 1 (.t 117) (.t 119)),
                      .op .none 121 (.ld false 1 (.t 120)),
                      .op .none 122 (.mv (.t 0)),
                      .op .none 123 (.mv (.t 8)),
                      .op .none 124 (.ia 1 (.t 122) (.t 123)),
                      .op .none 125 (.ld false 1 (.t 124)),
                      .op .none 126 (.buildS true 1 2 false [(.w (.string ⟨#[]⟩))] [(0, (.t 121)), (1, (.t 125))]),
                      .op .none 127 (.app 1 16 (.t 116) (.t 126)),
                      .op .none 7 (.mv (.t 127))]) <|
                    .reg false [.op .none 128 (.mv (.t 8)),
                      .op .none 129 (.bin .add (.t 128) (.c (.w (.int .i64 2)))),
                      .op .none 8 (.mv (.t 129))])
                    (.seq (.reg false [.op .none 4 (.nilS 1),
                      .op .none 5 (.mv (.c (.w (.int .i64 0)))),
                      .op .none 6 (.mv (.c (.w (.bool false))))]) <|
                    .ret)))))) <|
      .reg false [.op .none 130 (.bin .add (.t 14) (.c (.w (.int .i64 1)))),
        .op .none 14 (.mv (.t 130))]) <|
  .seq (.reg false [.op .none 131 (.mv (.t 7)),
    .op .none 132 (.mv (.t 8)),
    .op .none 4 (.mv (.t 131)),
    .op .none 5 (.mv (.t 132)),
    .op .none 6 (.mv (.c (.w (.bool true))))]) <|
  .ret
theorem k47 : FnCode Try.prog 47 [126] 133 [4, 5, 6] c47 := ⟨Try.f47, Try.func47, fun xs W => Try.call47 xs W, by kernel_rfl, by kernel_rfl, by kernel_rfl⟩

/-- ablaut/spell.Play -/
def c23 : MC :=
  .seq (.reg false [.op .none 4 (.nilS 1),
    .op .none 5 (.mv (.c (.w (.int .i64 0))))]) <|
  .seq (.seq (.reg false [.op .none 10 (.mv (.t 0)),
    .call .none 11 (.f 46) [(.t 10)],
    .op .none 6 (.mv (.t 11))]) <|
  .seq (.reg false [.op .none 12 (.mv (.t 6)),
    .op .none 13 (.bin .neq (.t 12) (.c (.w (.int .i64 0))))]) <|
  .cond (.t 13)
    (.seq (.reg false [.op .none 14 (.mv (.t 6)),
      .op .none 4 (.nilS 1),
      .op .none 5 (.mv (.t 14))]) <|
    .ret)
    (.skip)) <|
  .seq (.seq (.reg false [.op .none 15 (.mv (.t 1)),
    .op .none 16 (.len false (.t 15)),
    .op .none 17 (.bin .gtr (.t 16) (.c (.w (.int .i64 120))))]) <|
  .cond (.t 17)
    (.seq (.reg false [.op .none 4 (.nilS 1),
      .op .none 5 (.mv (.c (.w (.int .i64 3))))]) <|
    .ret)
    (.skip)) <|
  .seq (.reg false [.op .none 19 (.mv (.t 0)),
    .op .none 20 (.mv (.t 1)),
    .call .none 21 (.f 47) [(.t 19), (.t 20)],
    .op .none 18 (.mv (.t 21)),
    .op .none 22 (.ext (.t 18) 0),
    .op .none 23 (.ext (.t 18) 1),
    .op .none 24 (.ext (.t 18) 2),
    .op .none 7 (.mv (.t 22)),
    .op .none 8 (.mv (.t 23)),
    .op .none 9 (.mv (.t 24))]) <|
  .seq (.block 0 <|
    .seq (.reg false [.op .none 26 (.mv (.t 9)),
      .op .none 27 (.un .not (.t 26)),
      .op .none 28 (.mv (.t 27)),
      .op (.some (28, false)) 29 (.mv (.t 8)),
      .op (.some (28, false)) 30 (.mv (.t 0)),
      .op (.some (28, false)) 31 (.len false (.t 30)),
      .op (.some (28, false)) 32 (.bin .neq (.t 29) (.t 31)),
      .op .none 33 (.pick (.t 28) (.c (.w (.bool true))) (.t 32)),
      .op .none 25 (.mv (.t 33))]) <|
    .cond (.t 25)
      (.seq (.reg false [.op .none 4 (.nilS 1),
        .op .none 5 (.mv (.c (.w (.int .i64 1))))]) <|
      .ret)
      (.seq (.reg false [.op .none 35 (.mv (.t 7)),
        .op .none 36 (.len false (.t 35)),
        .op .none 37 (.bin .gtr (.t 36) (.c (.w (.int .i64 60)))),
        .op .none 34 (.mv (.t 37))]) <|
      .cond (.t 34)
        (.seq (.reg false [.op .none 4 (.nilS 1),
          .op .none 5 (.mv (.c (.w (.int .i64 3))))]) <|
        .ret)
        (.skip))) <|
  .seq (.reg false [.op .none 38 (.mv (.t 7)),
    .op .none 4 (.mv (.t 38)),
    .op .none 5 (.mv (.c (.w (.int .i64 0))))]) <|
  .ret
theorem k23 : FnCode Try.prog 23 [] 39 [4, 5] c23 := ⟨Try.f23, Try.func23, fun xs W => Try.call23 xs W, by kernel_rfl, by kernel_rfl, by kernel_rfl⟩

/-- Edits as a value. -/
def editsV (l : List EditT) : PV := .sl 3 (l.map editV)
def resP : Option (List Bs × Nat) → AV
  | none => .tup [.v (.sl 1 []), .I 0, .B false]
  | some (out, n) => .tup [.v (.word out), .I n, .B true]
set_option maxRecDepth 100000 in
theorem fok47 (a : List Bs) (l : List EditT) (ha : a.length ≤ 60) (hs : ∀ e ∈ l, e.2.2.1.length ≤ 200000000000000) (hl : l.length ≤ 120) :
    FOk Try.prog 47 [.v (.word a), .v (editsV l)] [] (resP (plays a l 0 [])) [] := by
  refine FOk.val k47 (by simp) (by simp) (by decide) ?_
  simp [c47, editsV]
  refine Run.loopA (ι := Nat × Nat × List Bs) [(1, 7)] (fun q => q.1 ≤ l.length ∧ q.2.1 ≤ a.length ∧ q.2.2.length ≤ 2 * q.1 ∧ plays a (l.drop q.1) q.2.1 q.2.2 = plays a l 0 [])
    (fun q => ⟨[(0, .v (.word a)), (7, .h 1), (8, .I q.2.1), (12, .v (.sl 3 (l.map editV))), (13, .I l.length), (14, .I q.1)], [(1, ⟨false, 1, q.2.2.map fun s => .w (.string (bs s))⟩)], 1024⟩) (fun q => l.length - q.1) (0, 0, []) (by decide) (by simp) ⟨by simp, by simp, by simp, by simp⟩ ?_
  rintro ⟨i, n, out⟩ ⟨hi, hn, ho, hall⟩ ih
  simp only at hi hn ho hall ih ⊢
  by_cases h : i < l.length
  · rw [drop_at h] at hall
    simp only [plays] at hall
    have hsi := hs l[i] (List.getElem_mem h)
    generalize hx : l[i] = x at hall hsi
    obtain ⟨k, pos, s, u⟩ := x
    have hbad : stp a n (k, pos, s, u) = none → plays a l 0 [] = none := by intro q; rw [q] at hall; exact hall.symm
    have hgood : ∀ o m, stp a n (k, pos, s, u) = some (o, m) → plays a (l.drop (i + 1)) m (out ++ o) = plays a l 0 [] := by intro o m q; rw [q] at hall; exact hall
    have hstep : ∀ o m, stp a n (k, pos, s, u) = some (o, m) → m ≤ a.length ∧ o.length ≤ 2 := fun o m q => stp_at q hn
    clear hall
    have hcap : ∀ m, m ≤ 2 → (out.length + m + 1000) * 16 ≤ 70368744177664 := by intro m hm; omega
    by_cases hp : pos = n
    · subst hp
      have hS := fokS s hsi
      have cap1 := hcap 1 (by omega)
      have cap2 := hcap 2 (by omega)
      by_cases hk0 : k = 0
      · subst hk0
        simp (disch := omega) [h, wrap_i64, hx, editV]
        refine CallG.lent rfl rfl rfl rfl hS rfl ?_
        by_cases hs0 : s = []
        · subst hs0
          have hf : symS [] = false := rfl
          by_cases hn' : n < a.length
          · have hle : ¬ a.length ≤ n := by omega
            have e : stp a n (0, n, [], u) = some ([a[n]], n + 1) := by simp [stp, stpK, hn']
            simp (disch := omega) [h, wrap_i64, hx, editV, symS_nil, hn', hle, cap1]
            exact ih (i + 1, n + 1, out ++ [a[n]]) _ ⟨by simp; omega, by simp; omega, by simp; omega, hgood _ _ e⟩ (by simp; omega) (by simp)
          · have hle : a.length ≤ n := by omega
            have e : stp a n (0, n, [], u) = none := by simp [stp, stpK, hn']
            simp (disch := omega) [h, wrap_i64, hx, editV, symS_nil, hn', hle]
            exact Ends.v rfl (by simp [hbad e, resP])
        · cases hf : symS s with
          | true =>
            have e : stp a n (0, n, s, u) = none := by simp [stp, stpK, hs0]
            simp (disch := omega) [h, wrap_i64, hx, editV, hf]
            exact Ends.v rfl (by simp [hbad e, resP])
          | false =>
            have e : stp a n (0, n, s, u) = none := by simp [stp, stpK, hs0]
            simp (disch := omega) [h, wrap_i64, hx, editV, hf, hs0]
            exact Ends.v rfl (by simp [hbad e, resP])
      by_cases hk1 : k = 1
      · subst hk1
        simp (disch := omega) [h, wrap_i64, hx, editV]
        refine CallG.lent rfl rfl rfl rfl hS rfl ?_
        by_cases hs0 : s = []
        · subst hs0
          have hf : symS [] = false := rfl
          by_cases hn' : n < a.length
          · have hle : ¬ a.length ≤ n := by omega
            have e : stp a n (1, n, [], u) = some ([], n + 1) := by simp [stp, stpK, hn']
            simp (disch := omega) [h, wrap_i64, hx, editV, symS_nil, hn', hle]
            exact ih (i + 1, n + 1, out ++ []) _ ⟨by simp; omega, by simp; omega, by simp; omega, hgood _ _ e⟩ (by simp; omega) (by simp)
          · have hle : a.length ≤ n := by omega
            have e : stp a n (1, n, [], u) = none := by simp [stp, stpK, hn']
            simp (disch := omega) [h, wrap_i64, hx, editV, symS_nil, hn', hle]
            exact Ends.v rfl (by simp [hbad e, resP])
        · cases hf : symS s with
          | true =>
            have e : stp a n (1, n, s, u) = none := by simp [stp, stpK, hs0]
            simp (disch := omega) [h, wrap_i64, hx, editV, hf]
            exact Ends.v rfl (by simp [hbad e, resP])
          | false =>
            have e : stp a n (1, n, s, u) = none := by simp [stp, stpK, hs0]
            simp (disch := omega) [h, wrap_i64, hx, editV, hf, hs0]
            exact Ends.v rfl (by simp [hbad e, resP])
      by_cases hk2 : k = 2
      · subst hk2
        simp (disch := omega) [h, wrap_i64, hx, editV]
        refine CallG.lent rfl rfl rfl rfl hS rfl ?_
        cases hf : symS s with
        | false =>
          have e : stp a n (2, n, s, u) = none := by simp [stp, stpK, hf]
          simp (disch := omega) [h, wrap_i64, hx, editV, hf]
          exact Ends.v rfl (by simp [hbad e, resP])
        | true =>
          have e : stp a n (2, n, s, u) = some ([s], n) := by simp [stp, stpK, hf]
          simp (disch := omega) [h, wrap_i64, hx, editV, hf, cap1]
          exact ih (i + 1, n, out ++ [s]) _ ⟨by simp; omega, by simp; omega, by simp; omega, hgood _ _ e⟩ (by simp; omega) (by simp)
      by_cases hk3 : k = 3
      · subst hk3
        simp (disch := omega) [h, wrap_i64, hx, editV]
        refine CallG.lent rfl rfl rfl rfl hS rfl ?_
        cases hf : symS s with
        | false =>
          have e : stp a n (3, n, s, u) = none := by simp [stp, stpK, hf]
          simp (disch := omega) [h, wrap_i64, hx, editV, hf]
          exact Ends.v rfl (by simp [hbad e, resP])
        | true =>
          by_cases hn' : n < a.length
          · have hle : ¬ a.length ≤ n := by omega
            by_cases hxy : s = a[n]
            · have e : stp a n (3, n, s, u) = none := by simp [stp, stpK, hf, hn', hxy]
              simp (disch := omega) [h, wrap_i64, hx, editV, hf, hn', hle, hxy]
              exact Ends.v rfl (by simp [hbad e, resP])
            · have e : stp a n (3, n, s, u) = some ([s], n + 1) := by simp [stp, stpK, hf, hn', hxy]
              simp (disch := omega) [h, wrap_i64, hx, editV, hf, hn', hle, hxy, cap1]
              exact ih (i + 1, n + 1, out ++ [s]) _ ⟨by simp; omega, by simp; omega, by simp; omega, hgood _ _ e⟩ (by simp; omega) (by simp)
          · have hle : a.length ≤ n := by omega
            have e : stp a n (3, n, s, u) = none := by simp [stp, stpK, hf, hn']
            simp (disch := omega) [h, wrap_i64, hx, editV, hf, hn', hle]
            exact Ends.v rfl (by simp [hbad e, resP])
      by_cases hk4 : k = 4
      · subst hk4
        simp (disch := omega) [h, wrap_i64, hx, editV]
        refine CallG.lent rfl rfl rfl rfl hS rfl ?_
        by_cases hs0 : s = []
        · subst hs0
          have hf : symS [] = false := rfl
          by_cases hn2 : n + 1 < a.length
          · have hle2 : ¬ a.length ≤ n + 1 := by omega
            have hle : ¬ a.length ≤ n := by omega
            have hn' : n < a.length := by omega
            by_cases hxy : a[n] = a[n + 1]
            · have e : stp a n (4, n, [], u) = none := by simp [stp, stpK, hn', hn2, hxy]
              simp (disch := omega) [h, wrap_i64, hx, editV, symS_nil, hn', hle, hn2, hle2, hxy]
              exact Ends.v rfl (by simp [hbad e, resP])
            · have e : stp a n (4, n, [], u) = some ([a[n + 1], a[n]], n + 2) := by simp [stp, stpK, hn', hn2, hxy]
              simp (disch := omega) [h, wrap_i64, hx, editV, symS_nil, hn', hle, hn2, hle2, hxy, cap2]
              exact ih (i + 1, n + 2, out ++ [a[n + 1], a[n]]) _ ⟨by simp; omega, by simp; omega, by simp; omega, hgood _ _ e⟩ (by simp; omega) (by simp)
          · have hle2 : a.length ≤ n + 1 := by omega
            have hx2 : a[n + 1]? = none := List.getElem?_eq_none (by omega)
            by_cases hn' : n < a.length
            · have hle : ¬ a.length ≤ n := by omega
              have e : stp a n (4, n, [], u) = none := by simp [stp, stpK, hn', hx2]
              simp (disch := omega) [h, wrap_i64, hx, editV, symS_nil, hn', hle, hn2, hle2]
              exact Ends.v rfl (by simp [hbad e, resP])
            · have hle : a.length ≤ n := by omega
              have e : stp a n (4, n, [], u) = none := by simp [stp, stpK, hn', hx2]
              simp (disch := omega) [h, wrap_i64, hx, editV, symS_nil, hn', hle]
              exact Ends.v rfl (by simp [hbad e, resP])
        · cases hf : symS s with
          | true =>
            have e : stp a n (4, n, s, u) = none := by simp [stp, stpK, hs0]
            simp (disch := omega) [h, wrap_i64, hx, editV, hf]
            exact Ends.v rfl (by simp [hbad e, resP])
          | false =>
            have e : stp a n (4, n, s, u) = none := by simp [stp, stpK, hs0]
            simp (disch := omega) [h, wrap_i64, hx, editV, hf, hs0]
            exact Ends.v rfl (by simp [hbad e, resP])
      have e : stp a n (k, n, s, u) = none := by simp [stp, stpK, hk0, hk1, hk2, hk3, hk4]
      simp (disch := omega) [h, wrap_i64, hx, editV, hk0, hk1, hk2, hk3, hk4]
      refine CallG.lent rfl rfl rfl rfl hS rfl ?_
      by_cases hs0 : s = []
      · subst hs0
        have hf : symS [] = false := rfl
        by_cases hn' : n < a.length
        · have hle : ¬ a.length ≤ n := by omega
          simp (disch := omega) [h, wrap_i64, hx, editV, hk0, hk1, hk2, hk3, hk4, symS_nil, hn', hle]
          exact Ends.v rfl (by simp [hbad e, resP])
        · have hle : a.length ≤ n := by omega
          simp (disch := omega) [h, wrap_i64, hx, editV, hk0, hk1, hk2, hk3, hk4, symS_nil, hn', hle]
          exact Ends.v rfl (by simp [hbad e, resP])
      · cases hf : symS s with
        | true =>
          simp (disch := omega) [h, wrap_i64, hx, editV, hk0, hk1, hk2, hk3, hk4, hf]
          exact Ends.v rfl (by simp [hbad e, resP])
        | false =>
          simp (disch := omega) [h, wrap_i64, hx, editV, hk0, hk1, hk2, hk3, hk4, hf, hs0]
          exact Ends.v rfl (by simp [hbad e, resP])
    · have e : stp a n (k, pos, s, u) = none := by simp [stp, hp]
      simp (disch := omega) [h, wrap_i64, hx, editV, hp]
      exact ⟨fun _ => Ends.v rfl (by simp [hbad e, resP]), fun _ => Ends.v rfl (by simp [hbad e, resP])⟩
  · rw [drop_no h] at hall
    simp only [plays] at hall
    simp (disch := omega) [h, wrap_i64]
    exact Ends.v rfl (by simp [← hall, resP])

theorem plays_len (a : List Bs) : ∀ (l : List EditT) (n : Nat) (out o : List Bs) (m : Nat), plays a l n out = some (o, m) → n ≤ a.length → m ≤ a.length ∧ o.length ≤ out.length + 2 * l.length
  | [], n, out, o, m, h, hn => by simp [plays] at h; obtain ⟨rfl, rfl⟩ := h; exact ⟨hn, by simp⟩
  | e :: l, n, out, o, m, h, hn => by
    simp only [plays] at h
    split at h
    · cases h
    · rename_i o' m' he
      obtain ⟨h1, h2⟩ := stp_at he hn
      obtain ⟨h3, h4⟩ := plays_len a l m' (out ++ o') o m h h1
      refine ⟨h3, ?_⟩
      simp at h4 ⊢; omega
def editS (l : List EditT) : Prop := l.length ≤ 200000000000000 ∧ ∀ e ∈ l, e.2.2.1.length ≤ 200000000000000
theorem fok23 (a : List Bs) (l : List EditT) (ha : wordS a) (hl : editS l) :
    FOk Try.prog 23 [.v (.word a), .v (editsV l)] [] (.tup [.v (.word (playF a l).1), .I (playF a l).2]) [] := by
  refine FOk.val k23 (by simp) (by simp) (by decide) ?_
  simp [c23, editsV]
  refine CallG.lent rfl rfl rfl rfl (fok46 a ha.1 ha.2) rfl ?_
  simp
  refine ⟨fun h0 => Ends.v rfl (by simp [playF, h0]), fun h0 => ⟨fun h1 => Ends.v rfl (by simp [playF, h0, h1]), fun h1 => ?_⟩⟩
  have h1' : ¬ 120 < l.length := by omega
  have hp := fok47 a l (vWord_ok h0) hl.2 (by omega)
  cases hr : plays a l 0 [] with
  | none =>
    rw [hr] at hp
    refine CallG.plain rfl rfl rfl rfl hp (by simp) (by simp [resP]) ?_
    simp only [resP]
    simp
    exact Ends.v rfl (by simp [playF, h0, h1', hr])
  | some r =>
    obtain ⟨out, n⟩ := r
    rw [hr] at hp
    refine CallG.plain rfl rfl rfl rfl hp (by simp) (by simp [resP]) ?_
    simp [resP]
    refine ⟨fun h2 => ?_, fun h2 => ?_⟩
    · have h2' : ¬ n = a.length := by omega
      exact Ends.v rfl (by simp [playF, h0, h1', hr, h2'])
    · have h2' : n = a.length := by omega
      refine ⟨fun h3 => Ends.v rfl (by simp [playF, h0, h1', hr, h2', h3]), fun h3 => ?_⟩
      have h3' : ¬ 60 < out.length := by omega
      exact Ends.v rfl (by simp [playF, h0, h1', hr, h2', h3'])

end Go.Proofs

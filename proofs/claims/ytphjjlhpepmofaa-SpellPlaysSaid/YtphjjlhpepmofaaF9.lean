/- The walk. -/
import Derived.Test.YtphjjlhpepmofaaF8
import Derived.Test.YtphjjlhpepmofaaProg
import Derived.KernelRfl
set_option linter.all false
set_option maxHeartbeats 2000000
namespace Go.Proofs
open Go Go.AM
attribute [local irreducible] Run Ends
/-- ablaut/ablautref23.Play -/
def c24 : MC :=
  .seq (.reg false [.op .none 4 (.nilS 1),
    .op .none 5 (.mv (.c (.w (.int .i64 0))))]) <|
  .seq (.seq (.reg false [.op .none 14 (.mv (.t 0)),
    .call .none 15 (.f 48) [(.t 14)],
    .op .none 6 (.mv (.t 15))]) <|
  .seq (.reg false [.op .none 16 (.mv (.t 6)),
    .op .none 17 (.bin .neq (.t 16) (.c (.w (.int .i64 0))))]) <|
  .cond (.t 17)
    (.seq (.reg false [.op .none 18 (.mv (.t 6)),
      .op .none 4 (.nilS 1),
      .op .none 5 (.mv (.t 18))]) <|
    .ret)
    (.skip)) <|
  .seq (.seq (.reg false [.op .none 19 (.mv (.t 1)),
    .op .none 20 (.len false (.t 19)),
    .op .none 21 (.bin .gtr (.t 20) (.c (.w (.int .i64 120))))]) <|
  .cond (.t 21)
    (.seq (.reg false [.op .none 4 (.nilS 1),
      .op .none 5 (.mv (.c (.w (.int .i64 3))))]) <|
    .ret)
    (.skip)) <|
  .seq (.reg false [.op .none 7 (.nilS 1)]) <|
  .seq (.reg false [.op .none 8 (.mv (.c (.w (.int .i64 0))))]) <|
  .seq (.seq (.reg false [.op .none 9 (.mv (.c (.w (.int .i64 0))))]) <|
  .block 0 <|
    .loop <|
      .seq (.seq (.reg false [.op .none 22 (.mv (.t 9)),
        .op .none 23 (.mv (.t 1)),
        .op .none 24 (.len false (.t 23)),
        .op .none 25 (.bin .lss (.t 22) (.t 24))]) <|
      .cond (.t 25)
        (.skip)
        (.exit 0)) <|
      .seq (.block 1 <|
        .seq (.reg false [.op .none 28 (.mv (.t 1)),
          .op .none 29 (.mv (.t 9)),
          .op .none 30 (.ia 3 (.t 28) (.t 29)),
          .op .none 31 (.ld true 3 (.t 30)),
          .op .none 10 (.alloc true [(.w (.int .i64 0)), (.w (.int .i64 0)), (.w (.string ⟨#[]⟩))]),
          .store .none true 3 (.t 10) (.t 31)]) <|
        .seq (.reg false [.op .none 32 (.mv (.t 8)),
          .op .none 33 (.mv (.t 0)),
          .op .none 34 (.len false (.t 33)),
          .op .none 35 (.bin .lss (.t 32) (.t 34)),
          .op .none 11 (.mv (.c (.w (.int .i64 1)))),
          .op .none 12 (.mv (.t 35))]) <|
        .seq (.seq (.reg false [.op .none 36 (.fa 0 (.t 10)),
          .op .none 37 (.ld false 1 (.t 36))]) <|
        .block 2 <|
          .seq (.reg false [.op .none 39 (.bin .eql (.t 37) (.c (.w (.int .i64 2)))),
            .op .none 38 (.mv (.t 39))]) <|
          .cond (.t 38)
            (.reg false [.op .none 11 (.mv (.c (.w (.int .i64 0)))),
              .op .none 12 (.mv (.c (.w (.bool true))))])
            (.seq (.reg false [.op .none 41 (.bin .eql (.t 37) (.c (.w (.int .i64 4)))),
              .op .none 40 (.mv (.t 41))]) <|
            .cond (.t 40)
              (.reg false [.op .none 42 (.mv (.t 8)),
                .op .none 43 (.bin .add (.t 42) (.c (.w (.int .i64 1)))),
                .op .none 44 (.mv (.t 0)),
                .op .none 45 (.len false (.t 44)),
                .op .none 46 (.bin .lss (.t 43) (.t 45)),
                .op .none 11 (.mv (.c (.w (.int .i64 2)))),
                .op .none 12 (.mv (.t 46))])
              (.skip))) <|
        .seq (.reg false [.op .none 47 (.fa 0 (.t 10)),
          .op .none 48 (.ld false 1 (.t 47)),
          .op .none 49 (.bin .eql (.t 48) (.c (.w (.int .i64 2)))),
          .op .none 50 (.mv (.t 49)),
          .op (.some (50, false)) 51 (.fa 0 (.t 10)),
          .op (.some (50, false)) 52 (.ld false 1 (.t 51)),
          .op (.some (50, false)) 53 (.bin .eql (.t 52) (.c (.w (.int .i64 3)))),
          .op .none 54 (.pick (.t 50) (.c (.w (.bool true))) (.t 53)),
          .op .none 13 (.mv (.t 54))]) <|
        .seq (.seq (.reg false [.op .none 55 (.fa 0 (.t 10)),
          .op .none 56 (.ld false 1 (.t 55)),
          .op .none 57 (.bin .lss (.t 56) (.c (.w (.int .i64 0)))),
          .op .none 58 (.mv (.t 57)),
          .op (.some (58, false)) 59 (.fa 0 (.t 10)),
          .op (.some (58, false)) 60 (.ld false 1 (.t 59)),
          .op (.some (58, false)) 61 (.bin .gtr (.t 60) (.c (.w (.int .i64 4)))),
          .op .none 62 (.pick (.t 58) (.c (.w (.bool true))) (.t 61)),
          .op .none 63 (.mv (.t 62)),
          .op (.some (63, false)) 64 (.fa 1 (.t 10)),
          .op (.some (63, false)) 65 (.ld false 1 (.t 64)),
          .op (.some (63, false)) 66 (.mv (.t 8)),
          .op (.some (63, false)) 67 (.bin .neq (.t 65) (.t 66)),
          .op .none 68 (.pick (.t 63) (.c (.w (.bool true))) (.t 67)),
          .op .none 69 (.mv (.t 68)),
          .op (.some (69, false)) 70 (.mv (.t 12)),
          .op (.some (69, false)) 71 (.un .not (.t 70)),
          .op .none 72 (.pick (.t 69) (.c (.w (.bool true))) (.t 71)),
          .op .none 73 (.mv (.t 72)),
          .op (.some (73, false)) 74 (.mv (.t 13)),
          .op (.some (73, false)) 75 (.fa 2 (.t 10)),
          .op (.some (73, false)) 76 (.ld false 1 (.t 75)),
          .op (.some (73, false)) 77 (.bin .neq (.t 76) (.c (.w (.string ⟨#[]⟩)))),
          .op (.some (73, false)) 78 (.eqb true (.t 74) (.t 77)),
          .op .none 79 (.pick (.t 73) (.c (.w (.bool true))) (.t 78)),
          .op .none 80 (.mv (.t 79)),
          .op (.some (80, false)) 81 (.mv (.t 13)),
          .op (.some (80, false)) 82 (.mv (.t 81)),
          .op (.some (82, true)) 83 (.fa 2 (.t 10)),
          .op (.some (82, true)) 84 (.ld false 1 (.t 83)),
          .call (.some (82, true)) 85 (.f 43) [(.t 84)],
          .op (.some (82, true)) 86 (.un .not (.t 85)),
          .op (.some (80, false)) 87 (.pick (.t 82) (.t 86) (.c (.w (.bool false)))),
          .op .none 88 (.pick (.t 80) (.c (.w (.bool true))) (.t 87))]) <|
        .cond (.t 88)
          (.seq (.reg false [.op .none 4 (.nilS 1),
            .op .none 5 (.mv (.c (.w (.int .i64 1))))]) <|
          .ret)
          (.skip)) <|
        .seq (.seq (.reg true [.op .none 89 (.fa 0 (.t 10)),
          .op .none 90 (.ld false 1 (.t 89)),
          .op .none 91 (.bin .eql (.t 90) (.c (.w (.int .i64 3)))),
          .op .none 92 (.mv (.t 91)),
          .op (.some (92, true)) 93 (.fa 2 (.t 10)),
          .op (.some (92, true)) 94 (.ld false 1 (.t 93)),
          .op (.some (92, true)) 95 (.mv (.t 0)),
          .op (.some (92, true)) 96 (.mv (.t 8)),
          .op (.some (92, true)) 97 (.ia 1 (.t 95) (.t 96)),
          .op (.some (92, true)) 98 (.ld false 1 (.t 97)),
          .op (.some (92, true)) 99 (.bin .eql (.t 94) (.t 98)),
          .op .none 100 (.pick (.t 92) (.t 99) (.c (.w (.bool false)))),
          .op .none 101 (.mv (.t 100)),
          .op (.some (101, false)) 102 (.fa 0 (.t 10)),
          .op (.some (101, false)) 103 (.ld false 1 (.t 102)),
          .op (.some (101, false)) 104 (.bin .eql (.t 103) (.c (.w (.int .i64 4)))),
          .op (.some (101, false)) 105 (.mv (.t 104)),
          .op (.some (105, true)) 106 (.mv (.t 0)),
          .op (.some (105, true)) 107 (.mv (.t 8)),
          .op (.some (105, true)) 108 (.ia 1 (.t 106) (.t 107)),
          .op (.some (105, true)) 109 (.ld false 1 (.t 108)),
          .op (.some (105, true)) 110 (.mv (.t 0)),
          .op (.some (105, true)) 111 (.mv (.t 8)),
          .op (.some (105, true)) 112 (.bin .add (.t 111) (.c (.w (.int .i64 1)))),
          .op (.some (105, true)) 113 (.ia 1 (.t 110) (.t 112)),
          .op (.some (105, true)) 114 (.ld false 1 (.t 113)),
          .op (.some (105, true)) 115 (.bin .eql (.t 109) (.t 114)),
          .op (.some (101, false)) 116 (.pick (.t 105) (.t 115) (.c (.w (.bool false)))),
          .op .none 117 (.pick (.t 101) (.c (.w (.bool true))) (.t 116))]) <|
        .cond (.t 117)
          (.seq (.reg false [.op .none 4 (.nilS 1),
            .op .none 5 (.mv (.c (.w (.int .i64 1))))]) <|
          .ret)
          (.skip)) <|
        .seq (.seq (.reg false [.op .none 118 (.fa 0 (.t 10)),
          .op .none 119 (.ld false 1 (.t 118))]) <|
        .block 3 <|
          .seq (.reg false [.op .none 121 (.bin .eql (.t 119) (.c (.w (.int .i64 0)))),
            .op .none 120 (.mv (.t 121))]) <|
          .cond (.t 120)
            (.reg false [.op .none 122 (.mv (.t 7)),
              .op .none 123 (.mv (.t 0)),
              .op .none 124 (.mv (.t 8)),
              .op .none 125 (.ia 1 (.t 123) (.t 124)),
              .op .none 126 (.ld false 1 (.t 125)),
              .op .none 127 (.buildS 1 1 false [(.w (.string ⟨#[]⟩))] [(0, (.t 126))]),
              .op .none 128 (.app 1 16 (.t 122) (.t 127)),
              .op .none 7 (.mv (.t 128))])
            (.seq (.seq (.reg false [.op .none 130 (.bin .eql (.t 119) (.c (.w (.int .i64 2)))),
              .op .none 129 (.mv (.t 130))]) <|
            .cond (.t 129)
              (.skip)
              (.reg false [.op .none 131 (.bin .eql (.t 119) (.c (.w (.int .i64 3)))),
                .op .none 129 (.mv (.t 131))])) <|
            .cond (.t 129)
              (.reg false [.op .none 132 (.mv (.t 7)),
                .op .none 133 (.fa 2 (.t 10)),
                .op .none 134 (.ld false 1 (.t 133)),
                .op .none 135 (.buildS 1 1 false [(.w (.string ⟨#[]⟩))] [(0, (.t 134))]),
                .op .none 136 (.app 1 16 (.t 132) (.t 135)),
                .op .none 7 (.mv (.t 136))])
              (.seq (.reg false [.op .none 138 (.bin .eql (.t 119) (.c (.w (.int .i64 4)))),
                .op .none 137 (.mv (.t 138))]) <|
              .cond (.t 137)
                (.reg true [.op .none 139 (.mv (.t 7)),
                  .op .none 140 (.mv (.t 0)),
                  .op .none 141 (.mv (.t 8)),
                  .op .none 142 (.bin .add (.t 141) (.c (.w (.int .i64 1)))),
                  .op .none 143 (.ia 1 (.t 140) (.t 142)),
                  .op .none 144 (.ld false 1 (.t 143)),
                  .op .none 145 (.mv (.t 0)),
                  .op .none 146 (.mv (.t 8)),
                  .op .none 147 (.ia 1 (.t 145) (.t 146)),
                  .op .none 148 (.ld false 1 (.t 147)),
                  .op .none 149 (.buildS 1 2 false [(.w (.string ⟨#[]⟩))] [(0, (.t 144)), (1, (.t 148))]),
                  .op .none 150 (.app 1 16 (.t 139) (.t 149)),
                  .op .none 7 (.mv (.t 150))])
                (.skip)))) <|
        .reg false [.op .none 151 (.mv (.t 8)),
          .op .none 152 (.mv (.t 11)),
          .op .none 153 (.bin .add (.t 151) (.t 152)),
          .op .none 8 (.mv (.t 153))]) <|
      .reg false [.op .none 26 (.mv (.t 9)),
        .op .none 27 (.bin .add (.t 26) (.c (.w (.int .i64 1)))),
        .op .none 9 (.mv (.t 27))]) <|
  .seq (.seq (.reg false [.op .none 154 (.mv (.t 8)),
    .op .none 155 (.mv (.t 0)),
    .op .none 156 (.len false (.t 155)),
    .op .none 157 (.bin .lss (.t 154) (.t 156))]) <|
  .cond (.t 157)
    (.seq (.reg false [.op .none 4 (.nilS 1),
      .op .none 5 (.mv (.c (.w (.int .i64 1))))]) <|
    .ret)
    (.skip)) <|
  .seq (.seq (.reg false [.op .none 158 (.mv (.t 7)),
    .op .none 159 (.len false (.t 158)),
    .op .none 160 (.bin .gtr (.t 159) (.c (.w (.int .i64 60))))]) <|
  .cond (.t 160)
    (.seq (.reg false [.op .none 4 (.nilS 1),
      .op .none 5 (.mv (.c (.w (.int .i64 3))))]) <|
    .ret)
    (.skip)) <|
  .seq (.reg false [.op .none 161 (.mv (.t 7)),
    .op .none 4 (.mv (.t 161)),
    .op .none 5 (.mv (.c (.w (.int .i64 0))))]) <|
  .ret
theorem k24 : FnCode Try.prog 24 [] 162 [4, 5] c24 := ⟨Try.f24, Try.func24, fun xs W => Try.call24 xs W, by kernel_rfl, by kernel_rfl, by kernel_rfl⟩

theorem symS_ne {s : Bs} (h : symS s = true) : s ≠ [] := by rintro rfl; cases h
set_option maxRecDepth 100000 in
theorem fok24 (a : List Bs) (l : List EditT) (ha : wordS a) (hl : editS l) :
    FOk Try.prog 24 [.v (.word a), .v (editsV l)] [] (.tup [.v (.word (playF a l).1), .I (playF a l).2]) [] := by
  refine FOk.val k24 (by simp) (by simp) (by decide) ?_
  simp [c24, editsV]
  refine CallG.lent rfl rfl rfl rfl (fok48 a ha) rfl ?_
  simp
  refine ⟨fun h0 => Ends.v rfl (by simp [playF, h0]), fun h0 => ⟨fun h1 => Ends.v rfl (by simp [playF, h0, h1]), fun h1 => ?_⟩⟩
  have h1' : ¬ 120 < l.length := by omega
  have ha60 := vWord_ok h0
  refine Run.loopA (ι := Nat × Nat × List Bs) [(1, 7)] (fun q => q.1 ≤ l.length ∧ q.2.1 ≤ a.length ∧ q.2.2.length ≤ 2 * q.1 ∧ plays a (l.drop q.1) q.2.1 q.2.2 = plays a l 0 [])
    (fun q => ⟨[(0, .v (.word a)), (1, .v (.sl 3 (l.map editV))), (7, .h 1), (8, .I q.2.1), (9, .I q.1)], [(1, ⟨false, 1, q.2.2.map fun s => .w (.string (bs s))⟩)], 1024⟩) (fun q => l.length - q.1) (0, 0, []) (by decide) (by simp) ⟨by simp, by simp, by simp, by simp⟩ ?_
  rintro ⟨i, n, out⟩ ⟨hi, hn, ho, hall⟩ ih
  simp only at hi hn ho hall ih ⊢
  by_cases h : i < l.length
  · rw [drop_at h] at hall
    simp only [plays] at hall
    have hsi := hl.2 l[i] (List.getElem_mem h)
    generalize hx : l[i] = x at hall hsi
    obtain ⟨k, pos, s, u⟩ := x
    have hbad : stp a n (k, pos, s, u) = none → plays a l 0 [] = none := by intro q; rw [q] at hall; exact hall.symm
    have hgood : ∀ o m, stp a n (k, pos, s, u) = some (o, m) → plays a (l.drop (i + 1)) m (out ++ o) = plays a l 0 [] := by intro o m q; rw [q] at hall; exact hall
    have hstep : ∀ o m, stp a n (k, pos, s, u) = some (o, m) → m ≤ a.length ∧ o.length ≤ 2 := fun o m q => stp_at q hn
    clear hall
    have hcap : ∀ m, m ≤ 2 → (out.length + m + 1000) * 16 ≤ 70368744177664 := by intro m hm; omega
    have cap1 := hcap 1 (by omega)
    have cap2 := hcap 2 (by omega)
    by_cases hp : pos = n
    · subst hp
      have hS := fok43 s hsi
      by_cases hk0 : k = 0
      · subst hk0
        by_cases hn' : n < a.length
        · have hle : ¬ a.length ≤ n := by omega
          by_cases hs0 : s = []
          · subst hs0
            have e : stp a n (0, n, [], u) = some ([a[n]], n + 1) := by simp [stp, stpK, hn']
            simp (disch := omega) [h, wrap_i64, hx, editV, hn', hle, cap1]
            exact ih (i + 1, n + 1, out ++ [a[n]]) _ ⟨by simp; omega, by simp; omega, by simp; omega, hgood _ _ e⟩ (by simp; omega) (by simp)
          · have e : stp a n (0, n, s, u) = none := by simp [stp, stpK, hs0]
            simp (disch := omega) [h, wrap_i64, hx, editV, hn', hle, hs0]
            exact Ends.v rfl (by simp [playF, h0, h1', hbad e])
        · have e : stp a n (0, n, s, u) = none := by simp [stp, stpK, hn']
          simp (disch := omega) [h, wrap_i64, hx, editV, hn']
          exact Ends.v rfl (by simp [playF, h0, h1', hbad e])
      by_cases hk1 : k = 1
      · subst hk1
        by_cases hn' : n < a.length
        · have hle : ¬ a.length ≤ n := by omega
          by_cases hs0 : s = []
          · subst hs0
            have e : stp a n (1, n, [], u) = some ([], n + 1) := by simp [stp, stpK, hn']
            simp (disch := omega) [h, wrap_i64, hx, editV, hn', hle]
            exact ih (i + 1, n + 1, out ++ []) _ ⟨by simp; omega, by simp; omega, by simp; omega, hgood _ _ e⟩ (by simp; omega) (by simp)
          · have e : stp a n (1, n, s, u) = none := by simp [stp, stpK, hs0]
            simp (disch := omega) [h, wrap_i64, hx, editV, hn', hle, hs0]
            exact Ends.v rfl (by simp [playF, h0, h1', hbad e])
        · have e : stp a n (1, n, s, u) = none := by simp [stp, stpK, hn']
          simp (disch := omega) [h, wrap_i64, hx, editV, hn']
          exact Ends.v rfl (by simp [playF, h0, h1', hbad e])
      by_cases hk2 : k = 2
      · subst hk2
        by_cases hs0 : s = []
        · subst hs0
          have e : stp a n (2, n, [], u) = none := by simp [stp, stpK, symS_nil]
          simp (disch := omega) [h, wrap_i64, hx, editV]
          exact Ends.v rfl (by simp [playF, h0, h1', hbad e])
        · cases hf : symS s with
          | false =>
            have e : stp a n (2, n, s, u) = none := by simp [stp, stpK, hf]
            simp (disch := omega) [h, wrap_i64, hx, editV, hs0]
            refine CallG.lent rfl rfl rfl rfl hS rfl ?_
            simp (disch := omega) [h, wrap_i64, hx, editV, hs0, hf]
            exact Ends.v rfl (by simp [playF, h0, h1', hbad e])
          | true =>
            have e : stp a n (2, n, s, u) = some ([s], n) := by simp [stp, stpK, hf]
            simp (disch := omega) [h, wrap_i64, hx, editV, hs0]
            refine CallG.lent rfl rfl rfl rfl hS rfl ?_
            simp (disch := omega) [h, wrap_i64, hx, editV, hs0, hf, cap1]
            exact ih (i + 1, n, out ++ [s]) _ ⟨by simp; omega, by simp; omega, by simp; omega, hgood _ _ e⟩ (by simp; omega) (by simp)
      by_cases hk3 : k = 3
      · subst hk3
        by_cases hn' : n < a.length
        · have hle : ¬ a.length ≤ n := by omega
          by_cases hs0 : s = []
          · subst hs0
            have e : stp a n (3, n, [], u) = none := by simp [stp, stpK, symS_nil]
            simp (disch := omega) [h, wrap_i64, hx, editV, hn', hle]
            exact Ends.v rfl (by simp [playF, h0, h1', hbad e])
          · cases hf : symS s with
            | false =>
              have e : stp a n (3, n, s, u) = none := by simp [stp, stpK, hf]
              simp (disch := omega) [h, wrap_i64, hx, editV, hn', hle, hs0]
              refine CallG.lent rfl rfl rfl rfl hS rfl ?_
              simp (disch := omega) [h, wrap_i64, hx, editV, hn', hle, hs0, hf]
              exact Ends.v rfl (by simp [playF, h0, h1', hbad e])
            | true =>
              by_cases hxy : s = a[n]
              · subst hxy
                have e : stp a n (3, n, a[n], u) = none := by simp [stp, stpK, hf, hn']
                simp (disch := omega) [h, wrap_i64, hx, editV, hn', hle, hs0]
                refine CallG.lent rfl rfl rfl rfl hS rfl ?_
                simp (disch := omega) [h, wrap_i64, hx, editV, hn', hle, hs0, hf]
                exact Ends.v rfl (by simp [playF, h0, h1', hbad e])
              · have e : stp a n (3, n, s, u) = some ([s], n + 1) := by simp [stp, stpK, hf, hn', hxy]
                simp (disch := omega) [h, wrap_i64, hx, editV, hn', hle, hs0]
                refine CallG.lent rfl rfl rfl rfl hS rfl ?_
                simp (disch := omega) [h, wrap_i64, hx, editV, hn', hle, hs0, hf, hxy, cap1]
                exact ih (i + 1, n + 1, out ++ [s]) _ ⟨by simp; omega, by simp; omega, by simp; omega, hgood _ _ e⟩ (by simp; omega) (by simp)
        · have e : stp a n (3, n, s, u) = none := by simp [stp, stpK, hn']
          simp (disch := omega) [h, wrap_i64, hx, editV, hn']
          exact Ends.v rfl (by simp [playF, h0, h1', hbad e])
      by_cases hk4 : k = 4
      · subst hk4
        by_cases hn2 : n + 1 < a.length
        · have hn' : n < a.length := by omega
          have hle : ¬ a.length ≤ n := by omega
          by_cases hs0 : s = []
          · subst hs0
            by_cases hxy : a[n] = a[n + 1]
            · have e : stp a n (4, n, [], u) = none := by simp [stp, stpK, hn', hn2, hxy]
              simp (disch := omega) [h, wrap_i64, hx, editV, hn', hn2, hxy]
              exact Ends.v rfl (by simp [playF, h0, h1', hbad e])
            · have e : stp a n (4, n, [], u) = some ([a[n + 1], a[n]], n + 2) := by simp [stp, stpK, hn', hn2, hxy]
              simp (disch := omega) [h, wrap_i64, hx, editV, hn', hn2, hxy, cap2]
              exact ih (i + 1, n + 2, out ++ [a[n + 1], a[n]]) _ ⟨by simp; omega, by simp; omega, by simp; omega, hgood _ _ e⟩ (by simp; omega) (by simp)
          · have e : stp a n (4, n, s, u) = none := by simp [stp, stpK, hs0]
            simp (disch := omega) [h, wrap_i64, hx, editV, hn', hn2, hs0]
            exact Ends.v rfl (by simp [playF, h0, h1', hbad e])
        · have hx2 : a[n + 1]? = none := List.getElem?_eq_none (by omega)
          have e : stp a n (4, n, s, u) = none := by simp only [stp, stpK]; rw [hx2]; cases a[n]? <;> simp
          simp (disch := omega) [h, wrap_i64, hx, editV, hn2]
          exact Ends.v rfl (by simp [playF, h0, h1', hbad e])
      have e : stp a n (k, n, s, u) = none := by simp [stp, stpK, hk0, hk1, hk2, hk3, hk4]
      have hkk : k < 0 ∨ 4 < k := by omega
      rcases hkk with hkk | hkk
      · simp (disch := omega) [h, wrap_i64, hx, editV, hk0, hk1, hk2, hk3, hk4, hkk]
        exact Ends.v rfl (by simp [playF, h0, h1', hbad e])
      · have hk5 : ¬ k < 0 := by omega
        simp (disch := omega) [h, wrap_i64, hx, editV, hk0, hk1, hk2, hk3, hk4, hkk, hk5]
        exact Ends.v rfl (by simp [playF, h0, h1', hbad e])
    · have e : stp a n (k, pos, s, u) = none := by simp [stp, hp]
      simp (disch := omega) [h, wrap_i64, hx, editV, hp]
      repeat' (first | refine And.intro ?_ ?_ | intro _)
      all_goals exact Ends.v rfl (by simp [playF, h0, h1', hbad e])
  · rw [drop_no h] at hall
    simp only [plays] at hall
    have hr := hall.symm
    by_cases h2 : n < a.length
    · have h2' : ¬ n = a.length := by omega
      simp (disch := omega) [h, wrap_i64, h2]
      exact Ends.v rfl (by simp [playF, h0, h1', hr, h2'])
    · have h2' : n = a.length := by omega
      by_cases h3 : 60 < out.length
      · simp (disch := omega) [h, wrap_i64, h2, h3]
        exact Ends.v rfl (by simp [playF, h0, h1', hr, h2', h3])
      · simp (disch := omega) [h, wrap_i64, h2, h3]
        exact Ends.v rfl (by simp [playF, h0, h1', hr, h2', h3])

end Go.Proofs

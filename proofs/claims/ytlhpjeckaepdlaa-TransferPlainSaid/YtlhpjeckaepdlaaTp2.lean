/- The walk. -/
import Derived.Test.YtlhpjeckaepdlaaTp1
import Derived.Test.YtlhpjeckaepdlaaProg
import Derived.KernelRfl
set_option linter.all false
set_option maxHeartbeats 2000000
namespace Go.Proofs
open Go Go.AM
attribute [local irreducible] Run Ends
/-- ablaut/ablautlaw28.TransferPlain -/
def c6 : MC :=
  .seq (.reg false [.op .none 2 (.box false (.t 0)),
    .op .none 4 (.mv (.c (.w (.bool false))))]) <|
  .seq (.seq (.reg false [.op .none 18 (.ld true 2 (.t 2)),
    .call .none 19 (.f 8) [(.t 18)],
    .op .none 20 (.mv (.t 19)),
    .op (.some (20, false)) 21 (.mv (.t 1)),
    .call (.some (20, false)) 22 (.f 9) [(.t 21)],
    .op .none 23 (.pick (.t 20) (.c (.w (.bool true))) (.t 22))]) <|
  .cond (.t 23)
    (.seq (.reg false [.call .none 24 (.f 10) [],
      .op .none 4 (.mv (.t 24))]) <|
    .ret)
    (.skip)) <|
  .seq (.reg false [.op .none 25 (.fa 0 (.t 2)),
    .op .none 26 (.ld false 1 (.t 25)),
    .op .none 27 (.build false [(.sl 4 []), (.sl 2 [])] [(0, 1, (.t 26))]),
    .op .none 5 (.alloc true [(.sl 4 []), (.sl 2 [])]),
    .store .none true 2 (.t 5) (.t 27)]) <|
  .seq (.reg false [.op .none 29 (.ld true 2 (.t 5)),
    .op .none 30 (.mv (.t 1)),
    .call .none 31 (.f 15) [(.t 29), (.t 30)],
    .op .none 28 (.mv (.t 31)),
    .op .none 32 (.ext (.t 28) 0),
    .op .none 33 (.ext (.t 28) 1),
    .op .none 6 (.mv (.t 32)),
    .op .none 7 (.mv (.t 33))]) <|
  .seq (.reg false [.op .none 35 (.ld true 2 (.t 2)),
    .op .none 36 (.mv (.t 1)),
    .call .none 37 (.f 19) [(.t 35), (.t 36)],
    .op .none 34 (.mv (.t 37)),
    .op .none 38 (.ext (.t 34) 0),
    .op .none 39 (.ext (.t 34) 1),
    .op .none 8 (.mv (.t 38)),
    .op .none 9 (.mv (.t 39))]) <|
  .seq (.seq (.reg false [.op .none 40 (.mv (.t 7)),
    .op .none 41 (.bin .neq (.t 40) (.c (.w (.int .i64 0)))),
    .op .none 42 (.mv (.t 41)),
    .op (.some (42, false)) 43 (.mv (.t 9)),
    .op (.some (42, false)) 44 (.bin .neq (.t 43) (.c (.w (.int .i64 0)))),
    .op .none 45 (.pick (.t 42) (.c (.w (.bool true))) (.t 44))]) <|
  .cond (.t 45)
    (.seq (.reg false [.call .none 46 (.f 10) [],
      .op .none 4 (.mv (.t 46))]) <|
    .ret)
    (.skip)) <|
  .seq (.seq (.reg false [.op .none 47 (.mv (.t 6)),
    .op .none 48 (.len false (.t 47)),
    .op .none 49 (.mv (.t 1)),
    .op .none 50 (.len false (.t 49)),
    .op .none 51 (.bin .neq (.t 48) (.t 50))]) <|
  .cond (.t 51)
    (.seq (.reg false [.op .none 4 (.mv (.c (.w (.bool false))))]) <|
    .ret)
    (.skip)) <|
  .seq (.reg false [.op .none 10 (.mv (.c (.w (.int .i64 0))))]) <|
  .seq (.seq (.reg false [.op .none 11 (.mv (.c (.w (.int .i64 0))))]) <|
  .block 0 <|
    .loop <|
      .seq (.seq (.reg false [.op .none 52 (.mv (.t 11)),
        .op .none 53 (.mv (.t 1)),
        .op .none 54 (.len false (.t 53)),
        .op .none 55 (.bin .lss (.t 52) (.t 54))]) <|
      .cond (.t 55)
        (.skip)
        (.exit 0)) <|
      .seq (.block 1 <|
        .seq (.reg true [.op .none 59 (.ld true 2 (.t 2)),
          .op .none 60 (.mv (.t 1)),
          .op .none 61 (.mv (.t 11)),
          .op .none 62 (.ia 2 (.t 60) (.t 61)),
          .op .none 63 (.ld true 2 (.t 62)),
          .call .none 64 (.f 26) [(.t 59), (.t 63)],
          .op .none 58 (.mv (.t 64)),
          .op .none 65 (.ext (.t 58) 0),
          .op .none 66 (.ext (.t 58) 1),
          .op .none 67 (.ext (.t 58) 2),
          .op .none 12 (.alloc true [(.w (.string ⟨#[]⟩)), (.sl 1 [])]),
          .store .none true 2 (.t 12) (.t 65),
          .op .none 13 (.mv (.t 66)),
          .op .none 14 (.mv (.t 67))]) <|
        .seq (.seq (.reg false [.op .none 68 (.mv (.t 14)),
          .op .none 69 (.bin .neq (.t 68) (.c (.w (.int .i64 0))))]) <|
        .cond (.t 69)
          (.seq (.reg false [.op .none 4 (.mv (.c (.w (.bool false))))]) <|
          .ret)
          (.skip)) <|
        .seq (.seq (.reg false [.op .none 70 (.mv (.t 13)),
          .op .none 71 (.un .not (.t 70))]) <|
        .cond (.t 71)
          (.seq (.seq (.reg false [.op .none 72 (.mv (.t 10)),
            .op .none 73 (.mv (.t 8)),
            .op .none 74 (.len false (.t 73)),
            .op .none 75 (.bin .geq (.t 72) (.t 74)),
            .op .none 76 (.mv (.t 75)),
            .op (.some (76, false)) 77 (.mv (.t 8)),
            .op (.some (76, false)) 78 (.mv (.t 10)),
            .op (.some (76, false)) 79 (.ia 1 (.t 77) (.t 78)),
            .op (.some (76, false)) 80 (.ld false 1 (.t 79)),
            .op (.some (76, false)) 81 (.mv (.t 11)),
            .op (.some (76, false)) 82 (.bin .neq (.t 80) (.t 81)),
            .op .none 83 (.pick (.t 76) (.c (.w (.bool true))) (.t 82))]) <|
          .cond (.t 83)
            (.seq (.reg false [.op .none 4 (.mv (.c (.w (.bool false))))]) <|
            .ret)
            (.skip)) <|
          .seq (.reg false [.op .none 84 (.mv (.t 10)),
            .op .none 85 (.bin .add (.t 84) (.c (.w (.int .i64 1)))),
            .op .none 10 (.mv (.t 85))]) <|
          .reg false [.op .none 86 (.mv (.t 1)),
            .op .none 87 (.mv (.t 11)),
            .op .none 88 (.ia 2 (.t 86) (.t 87)),
            .op .none 89 (.ld true 2 (.t 88)),
            .store .none true 2 (.t 12) (.t 89)])
          (.skip)) <|
        .seq (.reg true [.op .none 90 (.ld true 2 (.t 12)),
          .op .none 91 (.buildS false 2 1 true [(.w (.string ⟨#[]⟩)), (.sl 1 [])] [(0, (.t 90))]),
          .op .none 92 (.mv (.t 6)),
          .op .none 93 (.mv (.t 11)),
          .op .none 94 (.mv (.t 11)),
          .op .none 95 (.bin .add (.t 94) (.c (.w (.int .i64 1)))),
          .op .none 96 (.slc false 2 (.t 92) (.some (.t 93)) (.some (.t 95))),
          .call .none 97 (.f 21) [(.t 91), (.t 96)],
          .op .none 98 (.un .not (.t 97))]) <|
        .cond (.t 98)
          (.seq (.reg false [.op .none 4 (.mv (.c (.w (.bool false))))]) <|
          .ret)
          (.skip)) <|
      .reg false [.op .none 56 (.mv (.t 11)),
        .op .none 57 (.bin .add (.t 56) (.c (.w (.int .i64 1)))),
        .op .none 11 (.mv (.t 57))]) <|
  .seq (.reg false [.op .none 100 (.ld true 2 (.t 2)),
    .op .none 101 (.mv (.t 1)),
    .call .none 102 (.f 17) [(.t 100), (.t 101)],
    .op .none 99 (.mv (.t 102)),
    .op .none 103 (.ext (.t 99) 0),
    .op .none 104 (.ext (.t 99) 1),
    .op .none 15 (.mv (.t 103)),
    .op .none 16 (.mv (.t 104))]) <|
  .seq (.seq (.reg false [.op .none 17 (.mv (.c (.w (.int .i64 0))))]) <|
  .block 2 <|
    .loop <|
      .seq (.seq (.reg false [.op .none 105 (.mv (.t 17)),
        .op .none 106 (.mv (.t 15)),
        .op .none 107 (.len false (.t 106)),
        .op .none 108 (.bin .lss (.t 105) (.t 107))]) <|
      .cond (.t 108)
        (.skip)
        (.exit 2)) <|
      .seq (.block 3 <|
        .seq (.reg true [.op .none 111 (.mv (.t 15)),
          .op .none 112 (.mv (.t 17)),
          .op .none 113 (.ia 3 (.t 111) (.t 112)),
          .op .none 114 (.iaA 3 1 (.t 113) (.c (.w (.int .i64 0)))),
          .op .none 115 (.ld false 1 (.t 114)),
          .op .none 116 (.bin .lss (.t 115) (.c (.w (.int .i64 0)))),
          .op .none 117 (.mv (.t 116)),
          .op (.some (117, false)) 118 (.mv (.t 15)),
          .op (.some (117, false)) 119 (.mv (.t 17)),
          .op (.some (117, false)) 120 (.ia 3 (.t 118) (.t 119)),
          .op (.some (117, false)) 121 (.iaA 3 1 (.t 120) (.c (.w (.int .i64 0)))),
          .op (.some (117, false)) 122 (.ld false 1 (.t 121)),
          .op (.some (117, false)) 123 (.fa 1 (.t 2)),
          .op (.some (117, false)) 124 (.ld false 1 (.t 123)),
          .op (.some (117, false)) 125 (.len false (.t 124)),
          .op (.some (117, false)) 126 (.bin .geq (.t 122) (.t 125)),
          .op .none 127 (.pick (.t 117) (.c (.w (.bool true))) (.t 126)),
          .op .none 128 (.mv (.t 127)),
          .op (.some (128, false)) 129 (.mv (.t 15)),
          .op (.some (128, false)) 130 (.mv (.t 17)),
          .op (.some (128, false)) 131 (.ia 3 (.t 129) (.t 130)),
          .op (.some (128, false)) 132 (.iaA 3 1 (.t 131) (.c (.w (.int .i64 2)))),
          .op (.some (128, false)) 133 (.ld false 1 (.t 132)),
          .op (.some (128, false)) 134 (.mv (.t 15)),
          .op (.some (128, false)) 135 (.mv (.t 17)),
          .op (.some (128, false)) 136 (.ia 3 (.t 134) (.t 135)),
          .op (.some (128, false)) 137 (.iaA 3 1 (.t 136) (.c (.w (.int .i64 1)))),
          .op (.some (128, false)) 138 (.ld false 1 (.t 137)),
          .op (.some (128, false)) 139 (.bin .sub (.t 133) (.t 138)),
          .op (.some (128, false)) 140 (.fa 1 (.t 2)),
          .op (.some (128, false)) 141 (.ld false 1 (.t 140)),
          .op (.some (128, false)) 142 (.mv (.t 15)),
          .op (.some (128, false)) 143 (.mv (.t 17)),
          .op (.some (128, false)) 144 (.ia 3 (.t 142) (.t 143)),
          .op (.some (128, false)) 145 (.iaA 3 1 (.t 144) (.c (.w (.int .i64 0)))),
          .op (.some (128, false)) 146 (.ld false 1 (.t 145)),
          .op (.some (128, false)) 147 (.ia 2 (.t 141) (.t 146)),
          .op (.some (128, false)) 148 (.fa 0 (.t 147)),
          .op (.some (128, false)) 149 (.ld false 1 (.t 148)),
          .op (.some (128, false)) 150 (.len false (.t 149)),
          .op (.some (128, false)) 151 (.bin .neq (.t 139) (.t 150)),
          .op .none 152 (.pick (.t 128) (.c (.w (.bool true))) (.t 151)),
          .op .none 153 (.mv (.t 152)),
          .op (.some (153, false)) 154 (.mv (.t 17)),
          .op (.some (153, false)) 155 (.bin .gtr (.t 154) (.c (.w (.int .i64 0)))),
          .op (.some (153, false)) 156 (.mv (.t 155)),
          .op (.some (156, true)) 157 (.mv (.t 15)),
          .op (.some (156, true)) 158 (.mv (.t 17)),
          .op (.some (156, true)) 159 (.ia 3 (.t 157) (.t 158)),
          .op (.some (156, true)) 160 (.iaA 3 1 (.t 159) (.c (.w (.int .i64 1)))),
          .op (.some (156, true)) 161 (.ld false 1 (.t 160)),
          .op (.some (156, true)) 162 (.mv (.t 15)),
          .op (.some (156, true)) 163 (.mv (.t 17)),
          .op (.some (156, true)) 164 (.bin .sub (.t 163) (.c (.w (.int .i64 1)))),
          .op (.some (156, true)) 165 (.ia 3 (.t 162) (.t 164)),
          .op (.some (156, true)) 166 (.iaA 3 1 (.t 165) (.c (.w (.int .i64 2)))),
          .op (.some (156, true)) 167 (.ld false 1 (.t 166)),
          .op (.some (156, true)) 168 (.bin .lss (.t 161) (.t 167)),
          .op (.some (153, false)) 169 (.pick (.t 156) (.t 168) (.c (.w (.bool false)))),
          .op .none 170 (.pick (.t 153) (.c (.w (.bool true))) (.t 169))]) <|
        .cond (.t 170)
          (.seq (.reg false [.op .none 4 (.mv (.c (.w (.bool false))))]) <|
          .ret)
          (.skip)) <|
      .reg false [.op .none 109 (.mv (.t 17)),
        .op .none 110 (.bin .add (.t 109) (.c (.w (.int .i64 1)))),
        .op .none 17 (.mv (.t 110))]) <|
  .seq (.reg false [.op .none 171 (.mv (.t 16)),
    .op .none 172 (.bin .eql (.t 171) (.c (.w (.int .i64 0)))),
    .op .none 173 (.mv (.t 172)),
    .op (.some (173, true)) 174 (.mv (.t 10)),
    .op (.some (173, true)) 175 (.mv (.t 8)),
    .op (.some (173, true)) 176 (.len false (.t 175)),
    .op (.some (173, true)) 177 (.bin .eql (.t 174) (.t 176)),
    .op .none 178 (.pick (.t 173) (.t 177) (.c (.w (.bool false)))),
    .op .none 179 (.mv (.t 178)),
    .call (.some (179, true)) 180 (.f 10) [],
    .op .none 181 (.pick (.t 179) (.t 180) (.c (.w (.bool false)))),
    .op .none 4 (.mv (.t 181))]) <|
  .ret
theorem k6 : FnCode Try.prog 6 [] 182 [4] c6 := ⟨Try.f6, Try.func6, fun xs W => Try.call6 xs W, by kernel_rfl, by kernel_rfl, by kernel_rfl⟩

theorem transferPlain_ok (b : BrT) (l : List UnitT) (hb : brC b) (hl : l.length * 40 ≤ 140737488351232 ∧ ∀ u ∈ l, unitC u) : FOk Try.prog 6 [.v (brV b), .v (.sl 2 (l.map unitV))] [] (.B true) [] := by
  have hbs := hb.s
  have hl1 : l.length ≤ 200000000000000 := by have := hl.1; omega
  have hl2 : ∀ u ∈ l, unitS u := fun u hu => (hl.2 u hu).s
  have h1 := fok8 b hbs
  have h2 := fok9 l hl1 hl2
  have t3 := fok17 b l hbs hl1 hl2
  have t5 := fok19 b l hbs hl1 hl2
  have t7 := fun x (h : x ∈ l) => fok26 b x hbs (hl2 x h)
  have hk := fok10
  have t1 := fok15 (b.1, [], ()) l ⟨hbs.1, hbs.2.1, by simp, by simp⟩ hl1 hl2
  have hW := transF_plain (R := b.1) (l := l)
  have hboth := fun (h : bothF b l = 0) (x : UnitT) (hx : x ∈ l) => bothF_one h hx
  have hO := both0 (b := b) (l := l)
  have hokc := fun (h : shB b.2.1) => chF_ok b.2.1 l h l.length 0 (Nat.zero_le _)
  change shB b.2.1 → okCh b.2.1 l.length 0 (chunksF b.2.1 l) at hokc
  have hcl := chF_len b.2.1 l l.length 0
  change (chunksF b.2.1 l).length ≤ l.length at hcl
  have hul := unkF_len b.1 l 0
  generalize hv : bothF b l = v at hboth hO t3 t5
  generalize overF b = x1 at h1
  generalize endN (ovU l l.length) = x2 at h2
  generalize transF (b.1, [], ()) l = tr at t1 hW
  obtain ⟨m, e⟩ := tr
  obtain ⟨R, S, u⟩ := b
  simp only [brV, List.map_nil] at h1 t1 t3 t5 t7
  simp only at hW hokc hcl hul hboth hO
  generalize chunksF S l = cs at t3 hokc hcl
  generalize hus : unkF R l 0 = us at t5 hul
  refine FOk.val k6 (by simp) (by simp) (by decide) ?_
  simp [c6, brV]
  refine CallG.lent rfl rfl rfl rfl h1 rfl ?_
  cases x1
  case true =>
    simp
    refine CallG.lent rfl rfl rfl rfl hk rfl ?_
    simp
    exact Ends.v rfl (by simp)
  simp
  refine CallG.lent rfl rfl rfl rfl h2 rfl ?_
  cases x2
  case true =>
    simp
    refine CallG.lent rfl rfl rfl rfl hk rfl ?_
    simp
    exact Ends.v rfl (by simp)
  simp
  refine CallG.plain rfl rfl rfl rfl t1 (by simp) (by simp) ?_
  simp
  refine CallG.plain rfl rfl rfl rfl t5 (by simp) (by simp) ?_
  simp
  by_cases he : e = 0
  case neg =>
    simp [he]
    refine CallG.lent rfl rfl rfl rfl hk rfl ?_
    simp
    exact Ends.v rfl (by simp)
  by_cases h0 : v = 0
  case neg =>
    simp [he, h0]
    refine CallG.lent rfl rfl rfl rfl hk rfl ?_
    simp
    exact Ends.v rfl (by simp)
  subst he
  subst h0
  obtain ⟨rfl, hW2⟩ := hW rfl
  have hO := hO rfl
  have hokc := hokc hO.pat
  have hboth := hboth rfl
  have hWl : (wordsF R l).length = l.length := by simp [wordsF]
  simp [hWl]
  refine Run.loopA (ι := Nat × Nat) [(1, 2)] (fun q => q.1 ≤ l.length ∧ q.2 ≤ us.length ∧ us.drop q.2 = unkF R (l.drop q.1) q.1) (fun q => ⟨[(1, .v (.sl 2 (l.map unitV))), (2, .ptr 1 0 0), (6, .v (.sl 2 ((wordsF R l).map unitV))), (8, .v (.sl 1 (us.map fun i => .i (i : Nat)))), (10, .I q.2), (11, .I q.1)], [(1, ⟨false, 2, [brV (R, S, u)]⟩)], 1024⟩) (fun q => l.length - q.1) (0, 0) (by decide) (by simp [brV]) ⟨by simp, by simp, by simp [hus]⟩ ?_
  rintro ⟨i, k⟩ ⟨hi, hk2, hd⟩ ih
  simp only at hi hk2 hd ih
  by_cases h : i < l.length
  · have hi2 : i < (wordsF R l).length := by omega
    have hWi : (wordsF R l)[i] = (wordF R l[i]).1 := by simp [wordsF]
    have hc := t7 l[i] (List.getElem_mem h)
    have hWs := hW2 _ (List.getElem_mem hi2)
    rw [hWi] at hWs
    have hrw := rowF_word R l[i]
    unfold wordR at hc
    rw [if_neg (by simpa using hboth _ (List.getElem_mem h))] at hc
    rw [if_neg (show ¬ 16 < (wordF (R, S, u).1 l[i]).1.2.1.length from by simp only; omega)] at hc
    rw [drop_at h] at hd
    simp only [unkF] at hd
    have hs1 := fokUh [(wordsF R l)[i]] (by simp) (by rw [hWi]; simp; omega)
    rw [hWi] at hs1
    have hcut : List.drop i (List.take (i + 1) ((wordsF R l).map unitV)) = [unitV (wordF R l[i]).1] := by
      rw [← hWi, List.take_succ_eq_append_getElem (by simpa using hi2), List.drop_left' (by simp; omega)]
      simp
    have hWml : ((wordsF R l).map unitV).length = l.length := by simp [hWl]
    have hin : (i : Int) + 1 ≤ l.length := by omega
    simp only [brV] at hc
    rcases hrw with ⟨r1, r2, r3⟩ | ⟨r1, r2⟩
    · rw [if_pos r1] at hd
      have hk3 : k < us.length := by
        have := congrArg List.length hd
        simp at this; omega
      rw [drop_at hk3, List.cons.injEq] at hd
      obtain ⟨d1, d2⟩ := hd
      rw [r2] at hc
      rw [r3] at hcut hs1
      clear hWi hWs r1 r2 r3 t7 hboth
      generalize (wordsF R l).map unitV = Wm at hcut hWml ih ⊢
      generalize hx : l[i] = x at hc hcut hs1
      obtain ⟨xb, xt, xu⟩ := x
      simp [unitV] at hc hs1
      simp (disch := omega) [h, wrap_i64, hx, unitV, brV]
      refine CallG.plain rfl rfl rfl rfl hc (by simp) (by simp) ?_
      have hk4 : ¬ us.length ≤ k := by omega
      simp (disch := omega) [h, wrap_i64, hx, unitV, brV, hk3, hk4, d1, hcut, hWml, hin]
      refine CallG.same [58459] rfl rfl rfl rfl (by simp) (by simp) hs1 (by simp) (by simp [Named']) ?_
      simp (disch := omega) [wrap_i64]
      exact ih (i + 1, k + 1) _ ⟨by simp; omega, by simp; omega, by simpa using d2⟩ (by simp; omega) (by simp [brV])
    · rw [if_neg r1] at hd
      rw [r2] at hc
      clear hWi hWs r1 r2 t7 hboth
      generalize (wordsF R l).map unitV = Wm at hcut hWml ih ⊢
      generalize (wordF R l[i]).1 = y at hc hcut hs1
      generalize hx : l[i] = x at hc
      obtain ⟨xb, xt, xu⟩ := x
      obtain ⟨yb, yt, yu⟩ := y
      simp [unitV] at hc hs1
      simp (disch := omega) [h, wrap_i64, hx, unitV, brV]
      refine CallG.plain rfl rfl rfl rfl hc (by simp) (by simp) ?_
      simp (disch := omega) [h, wrap_i64, hx, unitV, brV, hcut, hWml, hin]
      refine CallG.same [33883] rfl rfl rfl rfl (by simp) (by simp) hs1 (by simp) (by simp [Named']) ?_
      simp (disch := omega) [wrap_i64]
      exact ih (i + 1, k) _ ⟨by simp; omega, by simp; omega, by simpa using hd⟩ (by simp; omega) (by simp [brV])
  · rw [drop_no h] at hd
    simp only [unkF] at hd
    have hku : k = us.length := by
      have := congrArg List.length hd
      simp at this; omega
    subst hku
    simp [h, brV]
    refine CallG.plain rfl rfl rfl rfl t3 (by simp) (by simp) ?_
    simp
    refine Run.loopA (ι := Nat) [(1, 2)] (fun j => j ≤ cs.length ∧ ∃ a, okCh S l.length a (cs.drop j) ∧ ∀ j', j = j' + 1 → ∃ c, cs[j']? = some c ∧ c.2.2 = a) (fun j => ⟨[(2, .ptr 1 0 0), (8, .v (.sl 1 (us.map fun i => .i (i : Nat)))), (10, .I us.length), (15, .v (.sl 3 (cs.map chV))), (16, .I 0), (17, .I j)], [(1, ⟨false, 2, [brV (R, S, u)]⟩)], 1024⟩) (fun j => cs.length - j) 0 (by decide) (by simp [brV]) ⟨by simp, 0, by simpa using hokc, by simp⟩ ?_
    rintro j ⟨hj, a, hoc, hpr⟩ ih2
    by_cases g : j < cs.length
    · rw [drop_at g] at hoc
      simp only [okCh] at hoc
      generalize hx : cs[j] = c at hoc
      obtain ⟨q, c1, c2⟩ := c
      simp only at hoc
      obtain ⟨o1, o2, o3, ⟨hq, o4⟩, o5⟩ := hoc
      generalize hy : S[q] = r at o4
      obtain ⟨p, o, u2⟩ := r
      simp only at o4
      have n1 : ¬ (q : Int) < 0 := by omega
      have n2 : ¬ (S.length : Int) ≤ (q : Int) := by omega
      have n3 : ¬ S.length ≤ q := by omega
      have n4 : (c2 : Int) - (c1 : Int) = p.length := by omega
      have hnx : ∀ j', j + 1 = j' + 1 → ∃ c, cs[j']? = some c ∧ c.2.2 = c2 := by
        intro j' e
        have : j' = j := by omega
        subst this
        exact ⟨(q, c1, c2), by rw [List.getElem?_eq_getElem g, hx], rfl⟩
      have hcl2 : c2 ≤ 200000000000000 := by omega
      cases j with
      | zero =>
        simp (disch := omega) [g, wrap_i64, hx, chV, brV, shufV, wordsV, hy, hq, n1, n2, n3, n4]
        exact ih2 1 _ ⟨by omega, c2, o5, hnx⟩ (by omega) (by simp [brV])
      | succ j =>
        obtain ⟨c', e1, e2⟩ := hpr j rfl
        obtain ⟨e3, e4⟩ := List.getElem?_eq_some_iff.1 e1
        obtain ⟨q', a1, a2⟩ := c'
        simp only at e2
        subst e2
        have n5 : ¬ (c1 : Int) < (a2 : Int) := by omega
        have n6 : ¬ c1 < a2 := by omega
        simp (disch := omega) [g, wrap_i64, hx, chV, brV, shufV, wordsV, hy, hq, n1, n2, n3, n4, e3, e4, n5, n6]
        exact ih2 (j + 1 + 1) _ ⟨by omega, c2, o5, hnx⟩ (by omega) (by simp [brV])
    · simp [g]
      refine CallG.lent rfl rfl rfl rfl hk rfl ?_
      simp
      exact Ends.v rfl (by simp)

end Go.Proofs

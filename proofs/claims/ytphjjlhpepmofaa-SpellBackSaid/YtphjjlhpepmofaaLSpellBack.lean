/- The walk. -/
import Derived.Test.YtphjjlhpepmofaaF10
import Derived.Test.YtphjjlhpepmofaaR1
import Derived.Test.YtphjjlhpepmofaaProg
import Derived.KernelRfl
set_option linter.all false
set_option maxHeartbeats 2000000
namespace Go.Proofs
open Go Go.AM
attribute [local irreducible] Run Ends
/-- ablaut/ablautlaw23.SpellBack -/
def c7 : MC :=
  .seq (.reg false [.op .none 3 (.box (.t 0)),
    .op .none 6 (.mv (.c (.w (.bool false))))]) <|
  .seq (.seq (.reg false [.op .none 15 (.ld true 5 (.t 3)),
    .call .none 16 (.f 11) [(.t 15)],
    .op .none 17 (.mv (.t 16)),
    .op (.some (17, false)) 18 (.mv (.t 1)),
    .op (.some (17, false)) 19 (.mv (.t 2)),
    .op (.some (17, false)) 20 (.buildS 1 2 false [(.sl 1 [])] [(0, (.t 18)), (1, (.t 19))]),
    .call (.some (17, false)) 21 (.f 12) [(.t 20)],
    .op (.some (17, false)) 22 (.bin .gtr (.t 21) (.c (.w (.int .i64 100000)))),
    .op .none 23 (.pick (.t 17) (.c (.w (.bool true))) (.t 22))]) <|
  .cond (.t 23)
    (.seq (.reg false [.call .none 24 (.f 13) [],
      .op .none 6 (.mv (.t 24))]) <|
    .ret)
    (.skip)) <|
  .seq (.reg false [.op .none 26 (.ld true 5 (.t 3)),
    .op .none 27 (.mv (.t 1)),
    .op .none 28 (.mv (.t 2)),
    .call .none 29 (.f 20) [(.t 26), (.t 27), (.t 28)],
    .op .none 25 (.mv (.t 29)),
    .op .none 30 (.ext (.t 25) 0),
    .op .none 31 (.ext (.t 25) 1),
    .op .none 7 (.mv (.t 30)),
    .op .none 8 (.mv (.t 31))]) <|
  .seq (.seq (.reg false [.op .none 32 (.mv (.t 8)),
    .op .none 33 (.bin .neq (.t 32) (.c (.w (.int .i64 0))))]) <|
  .cond (.t 33)
    (.seq (.reg false [.call .none 34 (.f 13) [],
      .op .none 6 (.mv (.t 34))]) <|
    .ret)
    (.skip)) <|
  .seq (.reg false [.op .none 36 (.mv (.t 1)),
    .op .none 37 (.mv (.t 7)),
    .call .none 38 (.f 23) [(.t 36), (.t 37)],
    .op .none 35 (.mv (.t 38)),
    .op .none 39 (.ext (.t 35) 0),
    .op .none 40 (.ext (.t 35) 1),
    .op .none 9 (.mv (.t 39)),
    .op .none 10 (.mv (.t 40))]) <|
  .seq (.reg false [.op .none 42 (.ld true 5 (.t 3)),
    .op .none 43 (.mv (.t 1)),
    .op .none 44 (.mv (.t 2)),
    .call .none 45 (.f 14) [(.t 42), (.t 43), (.t 44)],
    .op .none 41 (.mv (.t 45)),
    .op .none 46 (.ext (.t 41) 0),
    .op .none 47 (.ext (.t 41) 1),
    .op .none 11 (.mv (.t 46)),
    .op .none 12 (.mv (.t 47))]) <|
  .seq (.reg false [.op .none 13 (.mv (.c (.w (.int .i64 0))))]) <|
  .seq (.seq (.reg false [.op .none 14 (.mv (.c (.w (.int .i64 0))))]) <|
  .block 0 <|
    .loop <|
      .seq (.seq (.reg false [.op .none 48 (.mv (.t 14)),
        .op .none 49 (.mv (.t 7)),
        .op .none 50 (.len false (.t 49)),
        .op .none 51 (.bin .lss (.t 48) (.t 50))]) <|
      .cond (.t 51)
        (.skip)
        (.exit 0)) <|
      .seq (.block 1 <|
        .seq (.reg false [.op .none 54 (.mv (.t 7)),
          .op .none 55 (.mv (.t 14)),
          .op .none 56 (.ia 3 (.t 54) (.t 55)),
          .op .none 57 (.fa 0 (.t 56)),
          .op .none 58 (.ld false 1 (.t 57))]) <|
        .block 2 <|
          .seq (.reg false [.op .none 60 (.bin .eql (.t 58) (.c (.w (.int .i64 1)))),
            .op .none 59 (.mv (.t 60))]) <|
          .cond (.t 59)
            (.reg false [.op .none 61 (.mv (.t 13)),
              .op .none 62 (.fa 0 (.t 3)),
              .op .none 63 (.ld false 1 (.t 62)),
              .op .none 64 (.bin .add (.t 61) (.t 63)),
              .op .none 13 (.mv (.t 64))])
            (.seq (.reg false [.op .none 66 (.bin .eql (.t 58) (.c (.w (.int .i64 2)))),
              .op .none 65 (.mv (.t 66))]) <|
            .cond (.t 65)
              (.reg false [.op .none 67 (.mv (.t 13)),
                .op .none 68 (.fa 1 (.t 3)),
                .op .none 69 (.ld false 1 (.t 68)),
                .op .none 70 (.bin .add (.t 67) (.t 69)),
                .op .none 13 (.mv (.t 70))])
              (.seq (.reg false [.op .none 72 (.bin .eql (.t 58) (.c (.w (.int .i64 3)))),
                .op .none 71 (.mv (.t 72))]) <|
              .cond (.t 71)
                (.seq (.seq (.reg false [.op .none 73 (.mv (.t 7)),
                  .op .none 74 (.mv (.t 14)),
                  .op .none 75 (.ia 3 (.t 73) (.t 74)),
                  .op .none 76 (.fa 1 (.t 75)),
                  .op .none 77 (.ld false 1 (.t 76)),
                  .op .none 78 (.bin .lss (.t 77) (.c (.w (.int .i64 0)))),
                  .op .none 79 (.mv (.t 78)),
                  .op (.some (79, false)) 80 (.mv (.t 7)),
                  .op (.some (79, false)) 81 (.mv (.t 14)),
                  .op (.some (79, false)) 82 (.ia 3 (.t 80) (.t 81)),
                  .op (.some (79, false)) 83 (.fa 1 (.t 82)),
                  .op (.some (79, false)) 84 (.ld false 1 (.t 83)),
                  .op (.some (79, false)) 85 (.mv (.t 1)),
                  .op (.some (79, false)) 86 (.len false (.t 85)),
                  .op (.some (79, false)) 87 (.bin .geq (.t 84) (.t 86)),
                  .op .none 88 (.pick (.t 79) (.c (.w (.bool true))) (.t 87))]) <|
                .cond (.t 88)
                  (.seq (.reg false [.op .none 6 (.mv (.c (.w (.bool false))))]) <|
                  .ret)
                  (.skip)) <|
                .reg true [.op .none 89 (.mv (.t 13)),
                  .op .none 90 (.ld true 5 (.t 3)),
                  .op .none 91 (.mv (.t 1)),
                  .op .none 92 (.mv (.t 7)),
                  .op .none 93 (.mv (.t 14)),
                  .op .none 94 (.ia 3 (.t 92) (.t 93)),
                  .op .none 95 (.fa 1 (.t 94)),
                  .op .none 96 (.ld false 1 (.t 95)),
                  .op .none 97 (.ia 1 (.t 91) (.t 96)),
                  .op .none 98 (.ld false 1 (.t 97)),
                  .op .none 99 (.mv (.t 7)),
                  .op .none 100 (.mv (.t 14)),
                  .op .none 101 (.ia 3 (.t 99) (.t 100)),
                  .op .none 102 (.fa 2 (.t 101)),
                  .op .none 103 (.ld false 1 (.t 102)),
                  .call .none 104 (.f 26) [(.t 90), (.t 98), (.t 103)],
                  .op .none 105 (.bin .add (.t 89) (.t 104)),
                  .op .none 13 (.mv (.t 105))])
                (.seq (.reg false [.op .none 107 (.bin .eql (.t 58) (.c (.w (.int .i64 4)))),
                  .op .none 106 (.mv (.t 107))]) <|
                .cond (.t 106)
                  (.reg false [.op .none 108 (.mv (.t 13)),
                    .op .none 109 (.fa 2 (.t 3)),
                    .op .none 110 (.ld false 1 (.t 109)),
                    .op .none 111 (.bin .add (.t 108) (.t 110)),
                    .op .none 13 (.mv (.t 111))])
                  (.skip))))) <|
      .reg false [.op .none 52 (.mv (.t 14)),
        .op .none 53 (.bin .add (.t 52) (.c (.w (.int .i64 1)))),
        .op .none 14 (.mv (.t 53))]) <|
  .seq (.reg false [.op .none 112 (.mv (.t 10)),
    .op .none 113 (.bin .eql (.t 112) (.c (.w (.int .i64 0)))),
    .op .none 114 (.mv (.t 113)),
    .op (.some (114, true)) 115 (.mv (.t 9)),
    .op (.some (114, true)) 116 (.mv (.t 2)),
    .call (.some (114, true)) 117 (.f 25) [(.t 115), (.t 116)],
    .op .none 118 (.pick (.t 114) (.t 117) (.c (.w (.bool false)))),
    .op .none 119 (.mv (.t 118)),
    .op (.some (119, true)) 120 (.mv (.t 12)),
    .op (.some (119, true)) 121 (.bin .eql (.t 120) (.c (.w (.int .i64 0)))),
    .op .none 122 (.pick (.t 119) (.t 121) (.c (.w (.bool false)))),
    .op .none 123 (.mv (.t 122)),
    .op (.some (123, true)) 124 (.mv (.t 13)),
    .op (.some (123, true)) 125 (.mv (.t 11)),
    .op (.some (123, true)) 126 (.bin .eql (.t 124) (.t 125)),
    .op .none 127 (.pick (.t 123) (.t 126) (.c (.w (.bool false)))),
    .op .none 128 (.mv (.t 127)),
    .call (.some (128, true)) 129 (.f 13) [],
    .op .none 130 (.pick (.t 128) (.t 129) (.c (.w (.bool false)))),
    .op .none 6 (.mv (.t 130))]) <|
  .ret
theorem k7 : FnCode Try.prog 7 [] 131 [6] c7 := ⟨Try.f7, Try.func7, fun xs W => Try.call7 xs W, by kernel_rfl, by kernel_rfl, by kernel_rfl⟩

theorem vWord_sym {b : List Bs} (h : vWord b = 0) : ∀ s ∈ b, symS s = true := by
  have h1 : longW b = false := by
    cases h1 : longW b
    · rfl
    · unfold vWord at h; simp [h1] at h
  have h2 : badW b = false := by
    cases h2 : badW b
    · rfl
    · unfold vWord at h; rw [h1, h2] at h; simp at h
      split at h
      · omega
      · omega
  have h3 := allSy_bad h1
  rw [h2] at h3
  have key : ∀ w : List Bs, allSy w = true → ∀ s ∈ w, symS s = true := by
    intro w
    induction w with
    | nil => simp
    | cons x w ih =>
      intro hw s hs
      simp only [allSy, Bool.and_eq_true] at hw
      rcases List.mem_cons.1 hs with rfl | hs
      · exact hw.1
      · exact ih hw.2 s hs
  exact key b h3
theorem costE_range {p : PricesT} (h : OkP p) (a : List Bs) (e : EditT) : 0 ≤ costE p a e ∧ costE p a e ≤ 1000 := by
  have h1 := h.drop; have h2 := h.put; have h3 := h.swap; have h4 := h.chg (a[e.2.1.toNat]?.getD []) e.2.2.1
  unfold costE
  (repeat' split) <;> omega
theorem edL_S (p : PricesT) : ∀ (n i : Nat) (w v : List Bs), ∀ e ∈ edL p n i w v, e.2.2.1 = [] ∨ e.2.2.1 ∈ v
  | 0, _, _, _, e, he => by simp [edL] at he
  | n + 1, i, w, v, e, he => by
    unfold edL at he
    split at he
    · simp at he
    · rcases List.mem_cons.1 he with rfl | he
      · simp only [kS]
        split
        · cases v <;> simp
        · cases v <;> simp
        · simp
      · rcases edL_S p n _ _ _ e he with h | h
        · exact .inl h
        · exact .inr (List.mem_of_mem_drop h)
theorem spellBack_ok (p : PricesT) (a b : List Bs) (hp : pricesC p) (ha : wordC a) (hb : wordC b) : FOk Try.prog 7 [.v (pricesV p), .v (.word a), .v (.word b)] [] (.B true) [] := by
  have h1 := fok11 p hp.s.1 hp.s.2
  have h2 := fok12 [a, b] (by simp [ha.s, hb.s]) (by simp)
  have hk := fok13
  have hP := fok14 p a b hp.s.1 ha.s hb.s
  have hE := fok20 p a b hp.s.1 ha.s hb.s
  refine FOk.val k7 (by simp) (by simp) (by decide) ?_
  obtain ⟨pd, pp, ps, pc, rows, u⟩ := p
  simp [c7, pricesV]
  refine CallG.lent rfl rfl rfl rfl h1 rfl ?_
  cases ho : overF (pd, pp, ps, pc, rows, u) with
  | true =>
    simp
    refine CallG.lent rfl rfl rfl rfl hk rfl ?_
    simp
    exact Ends.v rfl (by simp)
  | false =>
    simp
    refine CallG.lent rfl rfl rfl rfl h2 rfl ?_
    simp
    refine ⟨fun _ => ?_, fun _ => ?_⟩
    · refine CallG.lent rfl rfl rfl rfl hk rfl ?_
      simp
      exact Ends.v rfl (by simp)
    refine CallG.plain rfl rfl rfl rfl hE (by simp) (by simp) ?_
    by_cases hc : vChecked (pd, pp, ps, pc, rows, u) [a, b] = 0
    · obtain ⟨g1, g2⟩ := vChecked_ok hc
      have hw : vWords [a, b] = 0 := by
        unfold vChecked at hc
        split at hc
        · exact hc
        · rename_i q; exact absurd hc q
      have va := vWords_ok hw a (by simp)
      have vb := vWords_ok hw b (by simp)
      have ga := g2 a (by simp)
      have gb := g2 b (by simp)
      obtain ⟨q1, q2, q3, q4⟩ := edL_plays g1 a b (vWord_sym vb) (a.length + b.length) 0 0 (by omega) (by omega) (by omega)
      have e1 : editsF (pd, pp, ps, pc, rows, u) a b = (edF (pd, pp, ps, pc, rows, u) a b, 0) := by simp [editsF, hc]
      have e2 : priceF (pd, pp, ps, pc, rows, u) a b = (pr (pd, pp, ps, pc, rows, u) a b, 0) := by simp [priceF, hc]
      simp only [List.drop_zero, List.take_zero] at q1 q2 q3 q4
      change plays a (edF (pd, pp, ps, pc, rows, u) a b) 0 [] = _ at q1
      change (edF (pd, pp, ps, pc, rows, u) a b).length ≤ _ at q2
      change costs (pd, pp, ps, pc, rows, u) a (edF (pd, pp, ps, pc, rows, u) a b) = _ at q3
      change ∀ e ∈ edF (pd, pp, ps, pc, rows, u) a b, _ at q4
      rw [e2] at hP
      rw [e1]
      have hl : editS (edF (pd, pp, ps, pc, rows, u) a b) := ⟨by omega, fun e he => by
        rcases edL_S _ _ _ _ _ e he with h | h
        · rw [h]; simp
        · exact hb.s.2 _ h⟩
      generalize edF (pd, pp, ps, pc, rows, u) a b = l at q1 q2 q3 q4 hl
      have e3 : playF a l = (b, 0) := by
        unfold playF
        rw [if_pos va, if_neg (by omega), q1]
        simp; omega
      have hPl := fok23 a l ha.s hl
      rw [e3] at hPl
      simp
      refine CallG.plain rfl rfl rfl rfl hPl (by simp) (by simp) ?_
      simp
      refine CallG.lent rfl rfl rfl rfl hP rfl ?_
      simp [editsV]
      have hS := fok25 b b hb.s.1 hb.s.1
      refine Run.loopA (ι := Nat × Int) [(1, 3)] (fun q => q.1 ≤ l.length ∧ 0 ≤ q.2 ∧ q.2 ≤ 1000 * q.1 ∧ q.2 + costs (pd, pp, ps, pc, rows, u) a (l.drop q.1) = pr (pd, pp, ps, pc, rows, u) a b)
        (fun q => ⟨[(1, .v (.word a)), (2, .v (.word b)), (3, .ptr 1 0 0), (7, .v (.sl 3 (l.map editV))), (9, .v (.word b)), (10, .I 0), (11, .I (pr (pd, pp, ps, pc, rows, u) a b)), (12, .I 0), (13, .I q.2), (14, .I q.1)], [(1, ⟨false, 5, [pricesV (pd, pp, ps, pc, rows, u)]⟩)], 1024⟩)
        (fun q => l.length - q.1) (0, 0) (by decide) (by simp [pricesV]) ⟨by simp, by simp, by simp, by simpa using q3⟩ ?_
      rintro ⟨i, sum⟩ ⟨hi, hs0, hs1, hall⟩ ih
      simp only at hi hs0 hs1 hall ih ⊢
      by_cases h : i < l.length
      · rw [drop_at h] at hall
        simp only [costs] at hall
        have hr := costE_range g1 a l[i]
        have h4 := q4 l[i] (List.getElem_mem h)
        generalize hx : l[i] = x at hall hr h4
        obtain ⟨k, pos, s, u2⟩ := x
        simp only at h4
        have hnext : ∀ s' : AM.St, Le 0 (kpA s'.env [(1, 3)]) s' ⟨[(1, .v (.word a)), (2, .v (.word b)), (3, .ptr 1 0 0), (7, .v (.sl 3 (l.map editV))), (9, .v (.word b)), (10, .I 0), (11, .I (pr (pd, pp, ps, pc, rows, u) a b)), (12, .I 0), (13, .I (sum + costE (pd, pp, ps, pc, rows, u) a (k, pos, s, u2))), (14, .I ((i + 1 : Nat) : Int))], [(1, ⟨false, 5, [pricesV (pd, pp, ps, pc, rows, u)]⟩)], 1024⟩ → Run _ _ _ _ s' :=
          fun s' hle => ih (i + 1, sum + costE (pd, pp, ps, pc, rows, u) a (k, pos, s, u2)) s' ⟨by simp; omega, by simp; omega, by simp; omega, by simp only; omega⟩ (by simp; omega) hle
        by_cases k1 : k = 1
        · have e : costE (pd, pp, ps, pc, rows, u) a (k, pos, s, u2) = pd := by simp [costE, k1]
          rw [e] at hr hnext
          simp (disch := omega) [h, hx, editV, wrap_i64, k1, pricesV]
          exact hnext _ (by simp [pricesV])
        by_cases k2 : k = 2
        · have e : costE (pd, pp, ps, pc, rows, u) a (k, pos, s, u2) = pp := by simp [costE, k2]
          rw [e] at hr hnext
          simp (disch := omega) [h, hx, editV, wrap_i64, k2, pricesV]
          exact hnext _ (by simp [pricesV])
        by_cases k3 : k = 3
        · obtain ⟨h5, h6⟩ := h4 k3
          obtain ⟨m, rfl⟩ : ∃ m : Nat, pos = m := ⟨pos.toNat, by omega⟩
          have hm : m < a.length := by omega
          have hm2 : ¬ a.length ≤ m := by omega
          have e : costE (pd, pp, ps, pc, rows, u) a (k, m, s, u2) = chg (pd, pp, ps, pc, rows, u) a[m] s := by simp [costE, k3, hm]
          rw [e] at hr hnext
          simp (disch := omega) [h, hx, editV, wrap_i64, k3, pricesV, hm, hm2]
          refine CallG.lent rfl rfl rfl rfl (fok26 (pd, pp, ps, pc, rows, u) a[m] s (by have := g1.len; omega)) rfl ?_
          simp (disch := omega) [wrap_i64]
          exact hnext _ (by simp [pricesV])
        by_cases k4 : k = 4
        · have e : costE (pd, pp, ps, pc, rows, u) a (k, pos, s, u2) = ps := by simp [costE, k4]
          rw [e] at hr hnext
          simp (disch := omega) [h, hx, editV, wrap_i64, k4, pricesV]
          exact hnext _ (by simp [pricesV])
        · have e : costE (pd, pp, ps, pc, rows, u) a (k, pos, s, u2) = 0 := by simp [costE, k1, k2, k3, k4]
          rw [e] at hr hnext
          simp (disch := omega) [h, hx, editV, wrap_i64, k1, k2, k3, k4, pricesV]
          exact hnext _ (by simp [pricesV])
      · rw [drop_no h] at hall
        simp only [costs] at hall
        have hsum : sum = pr (pd, pp, ps, pc, rows, u) a b := by omega
        subst hsum
        simp (disch := omega) [h]
        refine CallG.lent rfl rfl rfl rfl hS rfl ?_
        simp
        refine CallG.lent rfl rfl rfl rfl hk rfl ?_
        simp
        exact Ends.v rfl (by simp)
    · have e1 : editsF (pd, pp, ps, pc, rows, u) a b = ([], vChecked (pd, pp, ps, pc, rows, u) [a, b]) := by simp [editsF, hc]
      rw [e1]
      simp [hc]
      refine CallG.lent rfl rfl rfl rfl hk rfl ?_
      simp
      exact Ends.v rfl (by simp)

end Go.Proofs

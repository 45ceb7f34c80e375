/- The walk. -/
import Derived.Test.YtphjjlhpepmofaaGreatZs3
import Derived.Test.YtphjjlhpepmofaaGreatKb2
import Derived.Test.YtphjjlhpepmofaaGreatLk
import Derived.Test.YtphjjlhpepmofaaGreatProg
import Derived.KernelRfl
set_option linter.all false
set_option maxHeartbeats 2000000
namespace Go.Proofs
open Go Go.AM
attribute [local irreducible] Run Ends
/-- ablaut/ablautref01.Words -/
def c62 : MC :=
  .seq (.reg false [.op .none 2 (.mv (.c (.w (.int .i64 0))))]) <|
  .seq (.seq (.reg false [.op .none 3 (.mv (.c (.w (.int .i64 0))))]) <|
  .block 0 <|
    .loop <|
      .seq (.seq (.reg false [.op .none 5 (.mv (.t 3)),
        .op .none 6 (.mv (.t 0)),
        .op .none 7 (.len false (.t 6)),
        .op .none 8 (.bin .lss (.t 5) (.t 7))]) <|
      .cond (.t 8)
        (.skip)
        (.exit 0)) <|
      .seq (.block 1 <|
        .seq (.reg false [.op .none 11 (.mv (.t 0)),
          .op .none 12 (.mv (.t 3)),
          .op .none 13 (.ia 1 (.t 11) (.t 12)),
          .op .none 14 (.ld false 1 (.t 13)),
          .call .none 15 (.f 35) [(.t 14)],
          .op .none 4 (.mv (.t 15))]) <|
        .seq (.reg false [.op .none 16 (.mv (.t 4)),
          .op .none 17 (.bin .neq (.t 16) (.c (.w (.int .i64 0))))]) <|
        .cond (.t 17)
          (.seq (.reg false [.op .none 18 (.mv (.t 4)),
            .op .none 2 (.mv (.t 18))]) <|
          .ret)
          (.skip)) <|
      .reg false [.op .none 9 (.mv (.t 3)),
        .op .none 10 (.bin .add (.t 9) (.c (.w (.int .i64 1)))),
        .op .none 3 (.mv (.t 10))]) <|
  .seq (.reg false [.op .none 2 (.mv (.c (.w (.int .i64 0))))]) <|
  .ret
theorem k62 : FnCode Tryz.prog 62 [] 19 [2] c62 := ⟨Tryz.f62, Tryz.func62, fun xs W => Tryz.call62 xs W, by kernel_rfl, by kernel_rfl, by kernel_rfl⟩

/-- ablaut/ablautref15.Symbols -/
def c63 : MC :=
  .seq (.reg false [.op .none 2 (.nilS 1)]) <|
  .seq (.reg false [.op .none 3 (.nilS 1)]) <|
  .seq (.seq (.reg false [.op .none 4 (.mv (.c (.w (.int .i64 0))))]) <|
  .block 0 <|
    .loop <|
      .seq (.seq (.reg false [.op .none 5 (.mv (.t 4)),
        .op .none 6 (.mv (.t 0)),
        .op .none 7 (.len false (.t 6)),
        .op .none 8 (.bin .lss (.t 5) (.t 7))]) <|
      .cond (.t 8)
        (.skip)
        (.exit 0)) <|
      .seq (.block 1 <|
        .reg false [.op .none 11 (.mv (.t 3)),
          .op .none 12 (.mv (.t 0)),
          .op .none 13 (.mv (.t 4)),
          .op .none 14 (.ia 1 (.t 12) (.t 13)),
          .op .none 15 (.ld false 1 (.t 14)),
          .op .none 16 (.app 1 16 (.t 11) (.t 15)),
          .op .none 3 (.mv (.t 16))]) <|
      .reg false [.op .none 9 (.mv (.t 4)),
        .op .none 10 (.bin .add (.t 9) (.c (.w (.int .i64 1)))),
        .op .none 4 (.mv (.t 10))]) <|
  .seq (.reg false [.op .none 17 (.mv (.t 3)),
    .call .none 18 (.f 92) [(.t 17)],
    .op .none 2 (.mv (.t 18))]) <|
  .ret
theorem k63 : FnCode Tryz.prog 63 [] 19 [2] c63 := ⟨Tryz.f63, Tryz.func63, fun xs W => Tryz.call63 xs W, by kernel_rfl, by kernel_rfl, by kernel_rfl⟩

/-- ablaut/ablautref15.into -/
def c64 : MC :=
  .seq (.reg false [.op .none 4 (.nilS 1),
    .op .none 5 (.mv (.c (.w (.bool false))))]) <|
  .seq (.seq (.reg false [.op .none 6 (.mv (.c (.w (.int .i64 0))))]) <|
  .block 0 <|
    .loop <|
      .seq (.seq (.reg false [.op .none 9 (.mv (.t 6)),
        .op .none 10 (.mv (.t 0)),
        .op .none 11 (.len false (.t 10)),
        .op .none 12 (.bin .lss (.t 9) (.t 11))]) <|
      .cond (.t 12)
        (.skip)
        (.exit 0)) <|
      .seq (.block 1 <|
        .seq (.reg false [.op .none 15 (.mv (.t 1)),
          .op .none 16 (.mv (.t 0)),
          .op .none 17 (.mv (.t 6)),
          .op .none 18 (.ia 1 (.t 16) (.t 17)),
          .op .none 19 (.ld false 1 (.t 18)),
          .call .none 20 (.f 37) [(.t 15), (.t 19)],
          .op .none 7 (.mv (.t 20))]) <|
        .seq (.seq (.reg false [.op .none 21 (.mv (.t 7)),
          .op .none 22 (.bin .eql (.t 21) (.c (.w (.int .i64 0))))]) <|
        .cond (.t 22)
          (.seq (.reg false [.op .none 23 (.mv (.t 0)),
            .op .none 4 (.mv (.t 23)),
            .op .none 5 (.mv (.c (.w (.bool false))))]) <|
          .ret)
          (.skip)) <|
        .seq (.reg false [.op .none 24 (.mv (.t 7)),
          .op .none 25 (.bin .lss (.t 24) (.c (.w (.int .i64 0))))]) <|
        .cond (.t 25)
          (.seq (.reg false [.op .none 26 (.buildS false 1 0 false [(.sl 1 [])] []),
            .op .none 27 (.mv (.t 0)),
            .op .none 28 (.mv (.t 6)),
            .op .none 29 (.slc false 1 (.t 27) .none (.some (.t 28))),
            .op .none 30 (.app 1 24 (.t 26) (.t 29)),
            .op .none 8 (.mv (.t 30))]) <|
          .seq (.reg false [.op .none 31 (.mv (.t 8)),
            .op .none 32 (.mv (.t 1)),
            .op .none 33 (.buildS false 1 1 false [(.sl 1 [])] [(0, (.t 32))]),
            .op .none 34 (.app 1 24 (.t 31) (.t 33)),
            .op .none 8 (.mv (.t 34))]) <|
          .seq (.reg false [.op .none 35 (.mv (.t 8)),
            .op .none 36 (.mv (.t 0)),
            .op .none 37 (.mv (.t 6)),
            .op .none 38 (.slc false 1 (.t 36) (.some (.t 37)) .none),
            .op .none 39 (.app 1 24 (.t 35) (.t 38)),
            .op .none 4 (.mv (.t 39)),
            .op .none 5 (.mv (.c (.w (.bool true))))]) <|
          .ret)
          (.skip)) <|
      .reg false [.op .none 13 (.mv (.t 6)),
        .op .none 14 (.bin .add (.t 13) (.c (.w (.int .i64 1)))),
        .op .none 6 (.mv (.t 14))]) <|
  .seq (.reg false [.op .none 40 (.buildS false 1 0 false [(.sl 1 [])] []),
    .op .none 41 (.mv (.t 0)),
    .op .none 42 (.app 1 24 (.t 40) (.t 41)),
    .op .none 43 (.mv (.t 1)),
    .op .none 44 (.buildS false 1 1 false [(.sl 1 [])] [(0, (.t 43))]),
    .op .none 45 (.app 1 24 (.t 42) (.t 44)),
    .op .none 4 (.mv (.t 45)),
    .op .none 5 (.mv (.c (.w (.bool true))))]) <|
  .ret
theorem k64 : FnCode Tryz.prog 64 [] 46 [4, 5] c64 := ⟨Tryz.f64, Tryz.func64, fun xs W => Tryz.call64 xs W, by kernel_rfl, by kernel_rfl, by kernel_rfl⟩

/-- ablaut/ablautref15.New -/
def c30 : MC :=
  .seq (.reg false [.op .none 2 (.mv (.c (.w (.pointer none)))),
    .op .none 3 (.mv (.c (.w (.int .i64 0))))]) <|
  .seq (.seq (.reg false [.op .none 7 (.mv (.t 0)),
    .op .none 8 (.len false (.t 7)),
    .op .none 9 (.bin .gtr (.t 8) (.c (.w (.int .i64 300))))]) <|
  .cond (.t 9)
    (.seq (.reg false [.op .none 2 (.mv (.c (.w (.pointer none)))),
      .op .none 3 (.mv (.c (.w (.int .i64 3))))]) <|
    .ret)
    (.skip)) <|
  .seq (.seq (.reg false [.op .none 10 (.mv (.t 0)),
    .call .none 11 (.f 62) [(.t 10)],
    .op .none 4 (.mv (.t 11))]) <|
  .seq (.reg false [.op .none 12 (.mv (.t 4)),
    .op .none 13 (.bin .neq (.t 12) (.c (.w (.int .i64 0))))]) <|
  .cond (.t 13)
    (.seq (.reg false [.op .none 14 (.mv (.t 4)),
      .op .none 2 (.mv (.c (.w (.pointer none)))),
      .op .none 3 (.mv (.t 14))]) <|
    .ret)
    (.skip)) <|
  .seq (.seq (.reg false [.op .none 15 (.mv (.t 0)),
    .call .none 16 (.f 63) [(.t 15)],
    .op .none 17 (.len false (.t 16)),
    .op .none 18 (.bin .gtr (.t 17) (.c (.w (.int .i64 40))))]) <|
  .cond (.t 18)
    (.seq (.reg false [.op .none 2 (.mv (.c (.w (.pointer none)))),
      .op .none 3 (.mv (.c (.w (.int .i64 3))))]) <|
    .ret)
    (.skip)) <|
  .seq (.reg false [.op .none 19 (.build false [(.sl 1 [])] []),
    .op .none 20 (.box false (.t 19)),
    .op .none 5 (.mv (.t 20))]) <|
  .seq (.seq (.reg false [.op .none 6 (.mv (.c (.w (.int .i64 0))))]) <|
  .block 0 <|
    .loop <|
      .seq (.seq (.reg false [.op .none 21 (.mv (.t 6)),
        .op .none 22 (.mv (.t 0)),
        .op .none 23 (.len false (.t 22)),
        .op .none 24 (.bin .lss (.t 21) (.t 23))]) <|
      .cond (.t 24)
        (.skip)
        (.exit 0)) <|
      .seq (.block 1 <|
        .reg true [.op .none 28 (.mv (.t 5)),
          .op .none 29 (.mv (.t 5)),
          .op .none 30 (.chk (.t 29)),
          .op .none 31 (.fa 0 (.t 30)),
          .op .none 32 (.ld false 1 (.t 31)),
          .op .none 33 (.mv (.t 0)),
          .op .none 34 (.mv (.t 6)),
          .op .none 35 (.ia 1 (.t 33) (.t 34)),
          .op .none 36 (.ld false 1 (.t 35)),
          .call .none 37 (.f 64) [(.t 32), (.t 36)],
          .op .none 27 (.mv (.t 37)),
          .op .none 38 (.ext (.t 27) 0),
          .op .none 39 (.ext (.t 27) 1),
          .op .none 40 (.chk (.t 28)),
          .op .none 41 (.fa 0 (.t 40)),
          .store .none (.stt false 1 (.t 41) (.t 38))]) <|
      .reg false [.op .none 25 (.mv (.t 6)),
        .op .none 26 (.bin .add (.t 25) (.c (.w (.int .i64 1)))),
        .op .none 6 (.mv (.t 26))]) <|
  .seq (.reg false [.op .none 42 (.mv (.t 5)),
    .op .none 2 (.mv (.t 42)),
    .op .none 3 (.mv (.c (.w (.int .i64 0))))]) <|
  .ret
theorem k30 : FnCode Tryz.prog 30 [] 43 [2, 3] c30 := ⟨Tryz.f30, Tryz.func30, fun xs W => Tryz.call30 xs W, by kernel_rfl, by kernel_rfl, by kernel_rfl⟩

theorem fok62 (ws : List (List Bs)) (hw : ∀ w ∈ ws, wordS w) (hl : ws.length ≤ 200000000000000) : FOk Tryz.prog 62 [.v (wordsV ws)] [] (.I (vWords ws)) [] := by
  refine FOk.val k62 (by simp) (by simp) (by decide) ?_
  simp [c62, wordsV]
  refine Run.loopA (ι := Nat) [] (fun i => i ≤ ws.length ∧ vWords (ws.drop i) = vWords ws) (fun i => ⟨[(0, .v (.sl 1 (ws.map PV.word))), (3, .I i)], [], 1024⟩) (fun i => ws.length - i) 0 (by decide) (by simp) ⟨by simp, by simp⟩ ?_
  rintro i ⟨hi, hall⟩ ih
  by_cases h : i < ws.length
  · rw [drop_at h] at hall
    simp only [vWords] at hall
    have hs := hw ws[i] (List.getElem_mem h)
    simp (disch := omega) [h, wrap_i64]
    refine CallG.lent rfl rfl rfl rfl (fok35 ws[i] hs) rfl ?_
    simp (disch := omega) [wrap_i64]
    refine ⟨fun h1 => Ends.v rfl (by simp [← hall, h1]), fun h1 => ?_⟩
    exact ih (i + 1) _ ⟨by omega, by simpa [h1] using hall⟩ (by omega) (by simp)
  · rw [drop_no h] at hall
    simp [h]
    exact Ends.v rfl (by simp [← hall, vWords])

theorem fok63 (l : List (List Bs)) (hl : l.length ≤ 300) (hw : ∀ w ∈ l, w.length ≤ 60) : FOk Tryz.prog 63 [.v (wordsV l)] [] (.v (.word (setL l.flatten))) [] := by
  refine FOk.val k63 (by simp) (by simp) (by decide) ?_
  simp [c63, wordsV]
  refine Run.loopA (ι := Nat) [(1, 3)] (fun i => i ≤ l.length ∧ (l.take i).flatten.length ≤ 60 * i) (fun i => ⟨[(0, .v (.sl 1 (l.map PV.word))), (3, .h 1), (4, .I i)], [(1, ⟨false, 1, (l.take i).flatten.map fun s => .w (.string (bs s))⟩)], 1024⟩) (fun i => l.length - i) 0 (by decide) (by simp) ⟨by omega, by simp⟩ ?_
  rintro i ⟨hi, hfl⟩ ih
  by_cases h : i < l.length
  · have hg : (l.map PV.word)[i]? = some (PV.word l[i]) := by simp [List.getElem?_eq_getElem h]
    have hwl := hw _ (List.getElem_mem h)
    have htk : (l.take (i + 1)).flatten = (l.take i).flatten ++ l[i] := by rw [List.take_succ_eq_append_getElem h, List.flatten_append]; simp
    generalize (l.take i).flatten = A at hfl htk ⊢
    generalize l[i] = w at hg hwl htk
    simp only [PV.word] at hg
    have hb : (A.length + w.length + 1000) * 16 ≤ 70368744177664 := by omega
    simp (disch := (clear hb; omega)) [h, hg, hb, wrap_i64]
    exact ih (i + 1) _ ⟨by clear hb; omega, by rw [htk, List.length_append]; clear hb; omega⟩ (by clear hb; omega) (by rw [htk]; simp)
  · have hT : l.take i = l := List.take_of_length_le (by omega)
    rw [hT] at hfl ⊢
    have hset := fok92 l.flatten (by omega)
    generalize l.flatten = A at hset ⊢
    simp (disch := omega) [h, wrap_i64]
    refine CallG.rows [] rfl rfl rfl rfl (by simp) (by simp) hset (by simp) (by simp) ?_
    simp
    exact Ends.v rfl (by simp)
theorem fok64 (l : List (List Bs)) (w : List Bs) (hl : l.length ≤ 1000000) (hs : ∀ v ∈ l, v.length ≤ 1000000) (hw : w.length ≤ 1000000) (ha : l.Pairwise (fun a b => cmpW a b < 0)) : FOk Tryz.prog 64 [.v (wordsV l), .v (.word w)] [] (.tup [.v (wordsV (into cmpW l w)), .B (decide (w ∉ l))]) [] := by
  refine FOk.val k64 (by simp) (by simp) (by decide) ?_
  simp [c64, wordsV]
  refine Run.loopA (ι := Nat) [] (fun i => i ≤ l.length ∧ ∀ x ∈ l.take i, cmpW x w < 0) (fun i => ⟨[(0, .v (.sl 1 (l.map PV.word))), (1, .v (.word w)), (6, .I i)], [], 1024⟩) (fun i => l.length - i) 0 (by decide) (by simp) (by simp) ?_
  rintro i ⟨hi, hlo⟩ ih
  by_cases h : i < l.length
  · have hg : (l.map PV.word)[i]? = some (PV.word l[i]) := by simp [List.getElem?_eq_getElem h]
    have hsl := hs _ (List.getElem_mem h)
    have ho := fok37 w l[i] (by omega) (by omega)
    have hx : l[i] ∈ l := List.getElem_mem h
    have hgt : ∀ x ∈ l.drop i, x = l[i] ∨ cmpW l[i] x < 0 := fun x hx => by
      rw [drop_at h] at hx
      rcases List.mem_cons.1 hx with rfl | hx
      · exact .inl rfl
      · have := ha.sublist (List.drop_sublist i l)
        rw [drop_at h, List.pairwise_cons] at this
        exact .inr (this.1 x hx)
    have htk : l.take (i + 1) = l.take i ++ [l[i]] := List.take_succ_eq_append_getElem h
    generalize l[i] = v at hg hsl ho hx hgt htk
    simp only [PV.word] at hg ho
    have hil : i ≤ l.length := hi
    have hm2 : min i l.length = i := by omega
    obtain ⟨hb1, hb2, hb3⟩ : (i + 1000) * 24 ≤ 70368744177664 ∧ (i + 1 + 1000) * 24 ≤ 70368744177664 ∧ (i + 1 + (l.length - i) + 1000) * 24 ≤ 70368744177664 := by refine ⟨?_, ?_, ?_⟩ <;> omega
    simp (disch := (clear hb1 hb2 hb3; omega)) [h, hg, wrap_i64]
    refine CallG.lent rfl rfl rfl rfl ho rfl ?_
    rcases cmpW_range w v with hc | hc | hc
    · have hr := into_at linW hlo (fun x hx => by
        rcases hgt x hx with rfl | h2
        · omega
        · exact linW.tr (by omega) h2)
      have hn : w ∉ l := fun hm => by
        rw [← List.take_append_drop i l, List.mem_append] at hm
        rcases hm with hm | hm
        · exact linW.irr w (hlo w hm)
        · rcases hgt w hm with rfl | h2
          · rw [cmpW_self] at hc; omega
          · exact linW.irr w (linW.tr (by omega) h2)
      rw [hr]
      simp (disch := (clear hb1 hb2 hb3; omega)) [hc, hb1, hb2, hb3, hm2, hil, wrap_i64]
      refine Ends.v rfl ?_
      simp [hn]
      rw [List.take_of_length_le (by simp)]
    · have he := cmpW_zero hc
      subst he
      simp (disch := (clear hb1 hb2 hb3; omega)) [hc, wrap_i64]
      exact Ends.v rfl (by simp [into_found hx, hx])
    · simp (disch := (clear hb1 hb2 hb3; omega)) [hc, wrap_i64]
      exact ih (i + 1) _ ⟨by clear hb1 hb2 hb3; omega, fun x hx => by
        rw [htk] at hx
        rcases List.mem_append.1 hx with hx | hx
        · exact hlo x hx
        · simp at hx; subst hx; exact cmpW_pos.1 (by omega)⟩ (by clear hb1 hb2 hb3; omega) (by simp)
  · have hT : l.take i = l := List.take_of_length_le (by omega)
    have hr := into_at linW (k := l.length) (l := l) (w := w) (by rw [List.take_length]; rw [hT] at hlo; exact hlo) (by simp)
    rw [hT] at hlo
    have hn : w ∉ l := fun hm => linW.irr w (hlo w hm)
    rw [hr]
    obtain ⟨hb1, hb2⟩ : (l.length + 1000) * 24 ≤ 70368744177664 ∧ (l.length + 1 + 1000) * 24 ≤ 70368744177664 := by refine ⟨?_, ?_⟩ <;> omega
    simp (disch := (clear hb1 hb2; omega)) [h, hb1, hb2, wrap_i64]
    exact Ends.v rfl (by simp [hn])

theorem setL_sig (l : List (List Bs)) : (setL l.flatten).length = (sigF (memb l)).length := by
  have hp : (setL l.flatten).Pairwise (fun a b => cmpB a b < 0) := intos_pw linB .nil
  have hn : (setL l.flatten).Nodup := hp.imp fun {a b} hab e => by subst e; rw [cmpB_self] at hab; omega
  have hm : ∀ x, x ∈ setL l.flatten ↔ x ∈ l.flatten := fun x => by rw [show setL l.flatten = l.flatten.foldl (into cmpB) [] from rfl, intos_mem]; simp
  have hn2 : (unq [] (memb l).flatten).Nodup := unq_nd _ .nil
  have hm2 : ∀ x, x ∈ unq [] (memb l).flatten ↔ x ∈ l.flatten := fun x => by rw [unq_mem]; simp [memb_mem]
  have e : (sigF (memb l)).length = (unq [] (memb l).flatten).length := by simp [sigF, srtB]
  rw [e]
  have h1 := nd_le hn (w := unq [] (memb l).flatten) fun x hx => (hm2 x).2 ((hm x).1 hx)
  have h2 := nd_le hn2 (w := setL l.flatten) fun x hx => (hm x).2 ((hm2 x).1 hx)
  omega
theorem memb_into (l : List (List Bs)) : memb l = l.foldl (into cmpW) [] := cpct_srt linW l
def sto15 (M : List (List Bs)) : Ent := ⟨false, 1, [.st [wordsV M]]⟩
theorem fokN30 (l : List (List Bs)) (hl : l.length ≤ 200000000000000) (hw : ∀ w ∈ l, wordS w) : (vSto l ≠ 0 → FOk Tryz.prog 30 [.v (wordsV l)] [] (.tup [.v (.w (.pointer none)), .I (vSto l)]) []) ∧
    (vSto l = 0 → FOk Tryz.prog 30 [.v (wordsV l)] [] (.tup [.ptr 0 0 0, .I 0]) [(0, sto15 (memb l))]) := by
  have hc := fok62 l hw hl
  by_cases h3 : 300 < l.length
  · have hv : vSto l = 3 := by unfold vSto; rw [if_pos h3]
    refine ⟨fun _ => ?_, fun h => absurd (hv.symm.trans h) (by decide)⟩
    rw [hv]
    refine FOk.val k30 (by simp) (by simp) (by decide) ?_
    simp [c30, wordsV, h3]
    exact Ends.v rfl (by simp)
  by_cases hv : vWords l = 0
  case neg =>
    have hvs : vSto l = vWords l := by unfold vSto; rw [if_neg h3, if_neg hv]
    refine ⟨fun _ => ?_, fun h => absurd (hvs.symm.trans h) hv⟩
    rw [hvs]
    refine FOk.val k30 (by simp) (by simp) (by decide) ?_
    simp only [wordsV] at hc
    simp [c30, wordsV, h3]
    refine CallG.lent rfl rfl rfl rfl hc rfl ?_
    simp [hv]
    exact Ends.v rfl (by simp)
  have hw60 : ∀ w ∈ l, w.length ≤ 60 := fun w h => vWord_ok (vWords_ok hv w h)
  have hsy := fok63 l (by omega) hw60
  have hvs : vSto l = if 40 < (sigF (memb l)).length then 3 else 0 := by unfold vSto; rw [if_neg h3, if_pos hv]
  rw [hv] at hc
  simp only [wordsV] at hc hsy
  rw [← setL_sig] at hvs
  generalize setL l.flatten = Y at hsy hvs
  by_cases h4 : 40 < Y.length
  · rw [if_pos h4] at hvs
    refine ⟨fun _ => ?_, fun h => absurd (hvs.symm.trans h) (by decide)⟩
    rw [hvs]
    refine FOk.val k30 (by simp) (by simp) (by decide) ?_
    simp [c30, wordsV, h3]
    refine CallG.lent rfl rfl rfl rfl hc rfl ?_
    simp
    refine CallG.plain rfl rfl rfl rfl hsy (by simp) (by simp) ?_
    simp [h4]
    exact Ends.v rfl (by simp)
  · rw [if_neg h4] at hvs
    refine ⟨fun h => absurd hvs h, fun _ => ?_⟩
    refine FOk.of k30 0 (by simp) (by decide) (by simp) (by simp) (by simp [find]) (by decide) ?_
    simp [c30, wordsV, h3]
    refine CallG.lent rfl rfl rfl rfl hc rfl ?_
    simp
    refine CallG.plain rfl rfl rfl rfl hsy (by simp) (by simp) ?_
    simp [h4]
    refine Run.loopA (ι := Nat) [(1, 5)] (fun i => i ≤ l.length) (fun i => ⟨[(0, .v (.sl 1 (l.map PV.word))), (5, .ptr 1 0 0), (6, .I i)], [(1, sto15 ((l.take i).foldl (into cmpW) []))], 1024⟩) (fun i => l.length - i) 0 (by decide) (by simp [sto15, wordsV]) (by omega) ?_
    intro i hi ih
    by_cases h : i < l.length
    · have hg : (l.map PV.word)[i]? = some (PV.word l[i]) := by simp [List.getElem?_eq_getElem h]
      have hwl := hw60 _ (List.getElem_mem h)
      have htk : (l.take (i + 1)).foldl (into cmpW) [] = into cmpW ((l.take i).foldl (into cmpW) []) l[i] := by rw [List.take_succ_eq_append_getElem h, List.foldl_append]; rfl
      have hpw : ((l.take i).foldl (into cmpW) []).Pairwise (fun a b => cmpW a b < 0) := intos_pw linW .nil
      have hln := intos_len (c := cmpW) (l.take i) []
      have hwm : ∀ v ∈ (l.take i).foldl (into cmpW) [], v.length ≤ 1000000 := fun v hv' => by
        rw [intos_mem] at hv'
        simp only [List.not_mem_nil, or_false] at hv'
        have := hw60 v (List.mem_of_mem_take hv'); omega
      simp only [List.length_take, List.length_nil] at hln
      generalize (l.take i).foldl (into cmpW) [] = A at htk hpw hln hwm ⊢
      have ci := fok64 A l[i] (by omega) hwm (by omega) hpw
      generalize l[i] = w at hg ci htk
      simp only [PV.word, wordsV] at hg ci
      simp (disch := omega) [h, hg, sto15, wordsV, wrap_i64]
      refine CallG.plain rfl rfl rfl rfl ci (by simp) (by simp) ?_
      simp (disch := omega) [wrap_i64]
      exact ih (i + 1) _ (by omega) (by omega) (by rw [htk]; simp [sto15, wordsV])
    · have hT : l.take i = l := List.take_of_length_le (by omega)
      rw [hT, ← memb_into]
      simp (disch := omega) [h, wrap_i64]
      exact Ends.new 1 rfl rfl rfl (by simp [passH, find, sto15, wordsV]) (by simp [sto15])
theorem fok31 (M : List (List Bs)) : FOk Tryz.prog 31 [.ptr 0 0 0] [(0, sto15 M)] (.v (wordsV M)) [(0, sto15 M)] := fokList (wordsV M) rfl
theorem fok49 (M : List (List Bs)) : FOk Tryz.prog 49 [.ptr 0 0 0] [(0, stoE M)] (.v (wordsV M)) [(0, stoE M)] := fokWords (wordsV M) rfl

end Go.Proofs

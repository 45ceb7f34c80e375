/- The walk. -/
import Derived.Test.YtepjlojlkionfaaRs5
import Derived.Test.YtepjlojlkionfaaProg
import Derived.KernelRfl
set_option linter.all false
set_option maxHeartbeats 2000000
namespace Go.Proofs
open Go Go.AM
attribute [local irreducible] Run Ends
/-- ablaut/ablautref19.first -/
def c39 : MC :=
  .seq (.reg false [.op .none 3 (.box false (.t 0)),
    .op .none 6 (.nilS 2)]) <|
  .seq (.seq (.reg false [.op .none 7 (.mv (.t 1)),
    .op .none 8 (.len false (.t 7)),
    .op .none 9 (.bin .eql (.t 8) (.c (.w (.int .i64 0))))]) <|
  .cond (.t 9)
    (.seq (.reg false [.op .none 10 (.build false [(.w (.int .i64 0)), (.sl 1 [])] []),
      .op .none 11 (.buildS false 2 1 true [(.w (.int .i64 0)), (.sl 1 [])] [(0, (.t 10))]),
      .op .none 6 (.mv (.t 11))]) <|
    .ret)
    (.skip)) <|
  .seq (.reg true [.op .none 12 (.ld true 6 (.t 3)),
    .op .none 13 (.ld true 6 (.t 3)),
    .op .none 14 (.mv (.t 1)),
    .call .none 15 (.f 62) [(.t 13), (.t 14)],
    .op .none 16 (.mv (.t 2)),
    .call .none 17 (.f 63) [(.t 12), (.t 15), (.t 16)],
    .op .none 18 (.ia 1 (.t 17) (.c (.w (.int .i64 0)))),
    .op .none 19 (.ld false 1 (.t 18)),
    .op .none 20 (.fa 1 (.t 3)),
    .op .none 21 (.ld false 1 (.t 20)),
    .op .none 22 (.mv (.t 2)),
    .call .none 23 (.f 83) [(.t 19), (.t 21), (.c (.w (.int .i64 0))), (.c (.w (.int .i64 (-1)))), (.t 22)],
    .op .none 6 (.mv (.t 23))]) <|
  .ret
theorem k39 : FnCode Try.prog 39 [] 24 [6] c39 := ⟨Try.f39, Try.func39, fun xs W => Try.call39 xs W, by kernel_rfl, by kernel_rfl, by kernel_rfl⟩

/-- ablaut/ablautref19.named -/
def c40 : MC :=
  .seq (.reg false [.op .none 2 (.box false (.t 0)),
    .op .none 4 (.nilS 1)]) <|
  .seq (.reg false [.op .none 5 (.nilS 1)]) <|
  .seq (.seq (.reg false [.op .none 6 (.mv (.c (.w (.int .i64 0))))]) <|
  .block 0 <|
    .loop <|
      .seq (.seq (.reg false [.op .none 7 (.mv (.t 6)),
        .op .none 8 (.mv (.t 1)),
        .op .none 9 (.len false (.t 8)),
        .op .none 10 (.bin .lss (.t 7) (.t 9))]) <|
      .cond (.t 10)
        (.skip)
        (.exit 0)) <|
      .seq (.block 1 <|
        .reg true [.op .none 13 (.mv (.t 5)),
          .op .none 14 (.fa 0 (.t 2)),
          .op .none 15 (.ld false 1 (.t 14)),
          .op .none 16 (.mv (.t 1)),
          .op .none 17 (.mv (.t 6)),
          .op .none 18 (.ia 1 (.t 16) (.t 17)),
          .op .none 19 (.ld false 1 (.t 18)),
          .op .none 20 (.ia 1 (.t 15) (.t 19)),
          .op .none 21 (.ld false 1 (.t 20)),
          .op .none 22 (.buildS true 1 1 false [(.w (.string ⟨#[]⟩))] [(0, (.t 21))]),
          .op .none 23 (.app 1 16 (.t 13) (.t 22)),
          .op .none 5 (.mv (.t 23))]) <|
      .reg false [.op .none 11 (.mv (.t 6)),
        .op .none 12 (.bin .add (.t 11) (.c (.w (.int .i64 1)))),
        .op .none 6 (.mv (.t 12))]) <|
  .seq (.reg false [.op .none 24 (.mv (.t 5)),
    .op .none 4 (.mv (.t 24))]) <|
  .ret
theorem k40 : FnCode Try.prog 40 [22] 25 [4] c40 := ⟨Try.f40, Try.func40, fun xs W => Try.call40 xs W, by kernel_rfl, by kernel_rfl, by kernel_rfl⟩

/-- ablaut/ablautref19.Best -/
def c16 : MC :=
  .seq (.reg false [.op .none 2 (.box false (.t 0)),
    .op .none 4 (.nilS 1),
    .op .none 5 (.mv (.c (.w (.int .i64 0)))),
    .op .none 6 (.mv (.c (.w (.bool false)))),
    .op .none 7 (.mv (.c (.w (.int .i64 0))))]) <|
  .seq (.seq (.reg false [.op .none 10 (.ld true 6 (.t 2)),
    .op .none 11 (.mv (.t 1)),
    .call .none 12 (.f 38) [(.t 10), (.t 11)],
    .op .none 8 (.mv (.t 12))]) <|
  .seq (.reg false [.op .none 13 (.mv (.t 8)),
    .op .none 14 (.bin .neq (.t 13) (.c (.w (.int .i64 0))))]) <|
  .cond (.t 14)
    (.seq (.reg false [.op .none 15 (.mv (.t 8)),
      .op .none 4 (.nilS 1),
      .op .none 5 (.mv (.c (.w (.int .i64 0)))),
      .op .none 6 (.mv (.c (.w (.bool false)))),
      .op .none 7 (.mv (.t 15))]) <|
    .ret)
    (.skip)) <|
  .seq (.reg false [.op .none 16 (.ld true 6 (.t 2)),
    .op .none 17 (.mv (.t 1)),
    .call .none 18 (.f 39) [(.t 16), (.t 17), (.c (.w (.int .i64 1)))],
    .op .none 9 (.mv (.t 18))]) <|
  .seq (.seq (.reg false [.op .none 19 (.mv (.t 9)),
    .op .none 20 (.len false (.t 19)),
    .op .none 21 (.bin .eql (.t 20) (.c (.w (.int .i64 0))))]) <|
  .cond (.t 21)
    (.seq (.reg false [.op .none 4 (.nilS 1),
      .op .none 5 (.mv (.c (.w (.int .i64 0)))),
      .op .none 6 (.mv (.c (.w (.bool false)))),
      .op .none 7 (.mv (.c (.w (.int .i64 0))))]) <|
    .ret)
    (.skip)) <|
  .seq (.reg true [.op .none 22 (.ld true 6 (.t 2)),
    .op .none 23 (.mv (.t 9)),
    .op .none 24 (.ia 2 (.t 23) (.c (.w (.int .i64 0)))),
    .op .none 25 (.fa 1 (.t 24)),
    .op .none 26 (.ld false 1 (.t 25)),
    .call .none 27 (.f 40) [(.t 22), (.t 26)],
    .op .none 28 (.mv (.t 9)),
    .op .none 29 (.ia 2 (.t 28) (.c (.w (.int .i64 0)))),
    .op .none 30 (.fa 0 (.t 29)),
    .op .none 31 (.ld false 1 (.t 30)),
    .op .none 4 (.mv (.t 27)),
    .op .none 5 (.mv (.t 31)),
    .op .none 6 (.mv (.c (.w (.bool true)))),
    .op .none 7 (.mv (.c (.w (.int .i64 0))))]) <|
  .ret
theorem k16 : FnCode Try.prog 16 [] 32 [4, 5, 6, 7] c16 := ⟨Try.f16, Try.func16, fun xs W => Try.call16 xs W, by kernel_rfl, by kernel_rfl, by kernel_rfl⟩

/-- ablaut/ablautref19.Several -/
def c19 : MC :=
  .seq (.reg false [.op .none 3 (.box false (.t 0)),
    .op .none 6 (.nilS 2),
    .op .none 7 (.mv (.c (.w (.bool false)))),
    .op .none 8 (.mv (.c (.w (.int .i64 0))))]) <|
  .seq (.seq (.reg false [.op .none 13 (.ld true 6 (.t 3)),
    .op .none 14 (.mv (.t 1)),
    .call .none 15 (.f 38) [(.t 13), (.t 14)],
    .op .none 9 (.mv (.t 15))]) <|
  .seq (.reg false [.op .none 16 (.mv (.t 9)),
    .op .none 17 (.bin .neq (.t 16) (.c (.w (.int .i64 0))))]) <|
  .cond (.t 17)
    (.seq (.reg false [.op .none 18 (.mv (.t 9)),
      .op .none 6 (.nilS 2),
      .op .none 7 (.mv (.c (.w (.bool false)))),
      .op .none 8 (.mv (.t 18))]) <|
    .ret)
    (.skip)) <|
  .seq (.seq (.reg false [.op .none 19 (.mv (.t 2)),
    .op .none 20 (.bin .lss (.t 19) (.c (.w (.int .i64 1)))),
    .op .none 21 (.mv (.t 20)),
    .op (.some (21, false)) 22 (.mv (.t 2)),
    .op (.some (21, false)) 23 (.bin .gtr (.t 22) (.c (.w (.int .i64 200)))),
    .op .none 24 (.pick (.t 21) (.c (.w (.bool true))) (.t 23))]) <|
  .cond (.t 24)
    (.seq (.reg false [.op .none 6 (.nilS 2),
      .op .none 7 (.mv (.c (.w (.bool false)))),
      .op .none 8 (.mv (.c (.w (.int .i64 1))))]) <|
    .ret)
    (.skip)) <|
  .seq (.reg false [.op .none 25 (.ld true 6 (.t 3)),
    .op .none 26 (.mv (.t 1)),
    .op .none 27 (.mv (.t 2)),
    .op .none 28 (.bin .add (.t 27) (.c (.w (.int .i64 1)))),
    .call .none 29 (.f 39) [(.t 25), (.t 26), (.t 28)],
    .op .none 10 (.mv (.t 29))]) <|
  .seq (.reg false [.op .none 11 (.nilS 2)]) <|
  .seq (.seq (.reg false [.op .none 12 (.mv (.c (.w (.int .i64 0))))]) <|
  .block 0 <|
    .loop <|
      .seq (.seq (.reg false [.op .none 30 (.mv (.t 12)),
        .op .none 31 (.mv (.t 10)),
        .op .none 32 (.len false (.t 31)),
        .op .none 33 (.bin .lss (.t 30) (.t 32)),
        .op .none 34 (.mv (.t 33)),
        .op (.some (34, true)) 35 (.mv (.t 12)),
        .op (.some (34, true)) 36 (.mv (.t 2)),
        .op (.some (34, true)) 37 (.bin .lss (.t 35) (.t 36)),
        .op .none 38 (.pick (.t 34) (.t 37) (.c (.w (.bool false))))]) <|
      .cond (.t 38)
        (.skip)
        (.exit 0)) <|
      .seq (.block 1 <|
        .reg true [.op .none 41 (.mv (.t 11)),
          .op .none 42 (.mv (.t 10)),
          .op .none 43 (.mv (.t 12)),
          .op .none 44 (.ia 2 (.t 42) (.t 43)),
          .op .none 45 (.fa 0 (.t 44)),
          .op .none 46 (.ld false 1 (.t 45)),
          .op .none 47 (.ld true 6 (.t 3)),
          .op .none 48 (.mv (.t 10)),
          .op .none 49 (.mv (.t 12)),
          .op .none 50 (.ia 2 (.t 48) (.t 49)),
          .op .none 51 (.fa 1 (.t 50)),
          .op .none 52 (.ld false 1 (.t 51)),
          .call .none 53 (.f 40) [(.t 47), (.t 52)],
          .op .none 54 (.build true [(.w (.int .i64 0)), (.sl 1 [])] [(0, 1, (.t 46)), (1, 1, (.t 53))]),
          .op .none 55 (.buildS true 2 1 true [(.w (.int .i64 0)), (.sl 1 [])] [(0, (.t 54))]),
          .op .none 56 (.app 2 32 (.t 41) (.t 55)),
          .op .none 11 (.mv (.t 56))]) <|
      .reg false [.op .none 39 (.mv (.t 12)),
        .op .none 40 (.bin .add (.t 39) (.c (.w (.int .i64 1)))),
        .op .none 12 (.mv (.t 40))]) <|
  .seq (.reg false [.op .none 57 (.mv (.t 11)),
    .op .none 58 (.mv (.t 10)),
    .op .none 59 (.len false (.t 58)),
    .op .none 60 (.mv (.t 2)),
    .op .none 61 (.bin .gtr (.t 59) (.t 60)),
    .op .none 6 (.mv (.t 57)),
    .op .none 7 (.mv (.t 61)),
    .op .none 8 (.mv (.c (.w (.int .i64 0))))]) <|
  .ret
theorem k19 : FnCode Try.prog 19 [54, 55] 62 [6, 7, 8] c19 := ⟨Try.f19, Try.func19, fun xs W => Try.call19 xs W, by kernel_rfl, by kernel_rfl, by kernel_rfl⟩

theorem firstF_good {t : TagT} (ht : OkT t) {l : List Bs} (hl : l.length ≤ 200) {m : Nat} : ∀ x ∈ firstF t l (m + 1), (∀ k ∈ x.2, k < t.1.length) ∧ x.2.length ≤ 200 := by
  intro x hx
  rw [first_same ht] at hx
  obtain ⟨a, ha, rfl⟩ := List.mem_map.1 hx
  have := sevP_good ht m l.length (Nat.le_refl _) a ha
  exact ⟨this.lt, by rw [this.len]; exact hl⟩
theorem firstF_len {t : TagT} (ht : OkT t) {l : List Bs} {m : Nat} : (firstF t l (m + 1)).length ≤ m + 1 := by
  rw [first_same ht, List.length_map]; exact sevP_len t l m l.length
theorem fok39 (t : TagT) (l : List Bs) (m : Nat) (ht : OkT t) (hl : l.length ≤ 200) (hm : 1 ≤ m) (hm2 : m ≤ 1000) : FOk Try.prog 39 [.v (tagV t), .v (.word l), .I m] [] (.v (tailsV (firstF t l m))) [] := by
  have htc2 : tagV t = .st [.word t.1, intsV t.2.1, intsV t.2.2.1, .sl 1 (t.2.2.2.1.map intsV), .sl 2 (t.2.2.2.2.1.map worthV), intsV t.2.2.2.2.2.1] := by
    obtain ⟨G, Fi, Z, P, W, U, uu⟩ := t; rfl
  have htab := fok62 t l ht hl
  have hWc : ∀ w ∈ l.map (costsF t), csB t.1.length (-1) w = true := by
    intro w hw
    obtain ⟨x, _, rfl⟩ := List.mem_map.1 hw
    exact costsF_ok ht x
  have htls := fok63 t (l.map (costsF t)) m ht hWc (by simpa using hl) hm hm2
  refine FOk.val k39 (by simp) (by simp) (by decide) ?_
  rw [htc2] at htab htls ⊢
  rcases hle : l with _ | ⟨w, l0⟩
  · simp [c39]
    exact Ends.v rfl (by simp [firstF, tailsV, tailV, natsV])
  rw [← hle]
  have hpos : 0 < l.length := by rw [hle]; simp
  have hne : ¬ l.length = 0 := by omega
  have hne' : ¬ (l.length : Int) = 0 := by omega
  have hln : ¬ l = [] := by rw [hle]; simp
  have hrow := rowsT_at t m (l.map (costsF t)) (Nat.zero_le 0) (show 0 < (l.map (costsF t)).length by simpa using hpos)
  rw [List.drop_zero] at hrow
  have hgood : GoodT t m (l.map (costsF t)).length ((tlsF t m (l.map (costsF t))).headD []) := by
    refine tlsF_good ht hm _ hWc _ ?_
    have := tlsF_cons t m (l.map (costsF t)) (i := 0) (by simpa using hpos)
    rw [List.drop_zero] at this
    rw [this]; simp
  have e : firstF t l m = mrg t.2.1 0 none m ((tlsF t m (l.map (costsF t))).headD []) := by rw [hle]; rfl
  rw [e]
  have hN : (l.map (costsF t)).length ≤ 200 := by simpa using hl
  generalize rowsT t m (l.map (costsF t)) 0 = TB at htls hrow
  generalize (tlsF t m (l.map (costsF t))).headD [] = R at hrow hgood ⊢
  generalize (l.map (costsF t)).map intsV = TW at htab htls
  have hmg := fok83 R t.2.1 0 none m (by rw [hgood.len]; exact ht.g) (by rw [hgood.len]; exact csB_len ht.f) (fun q hq => ⟨by have := (hgood.q q hq).1; omega, fun x hx => by have := (hgood.q q hq).2 x hx; omega⟩) (fun p hp => csB_rng ht.f p hp) (by omega) hm2
  obtain ⟨hr1, hr2⟩ := List.getElem?_eq_some_iff.1 hrow
  simp only [rowT] at hr2
  simp only [bI9] at hmg
  simp [c39, hne, hne', hln]
  refine CallG.plain rfl rfl rfl rfl htab (by simp) (by simp) ?_
  simp
  refine CallG.plain rfl rfl rfl rfl htls (by simp) (by simp) ?_
  simp [hr1, hr2]
  refine CallG.plain rfl rfl rfl rfl hmg (by simp) (by simp) ?_
  simp
  exact Ends.v rfl (by simp)
theorem fok40 (t : TagT) (a : List Nat) (ha : ∀ k ∈ a, k < t.1.length) (hl : a.length ≤ 1000) : FOk Try.prog 40 [.v (tagV t), .v (natsV a)] [] (.v (.word (a.map fun k => t.1.getD k []))) [] := by
  have htc2 : tagV t = .st [.word t.1, intsV t.2.1, intsV t.2.2.1, .sl 1 (t.2.2.2.1.map intsV), .sl 2 (t.2.2.2.2.1.map worthV), intsV t.2.2.2.2.2.1] := by
    obtain ⟨G, Fi, Z, P, W, U, uu⟩ := t; rfl
  obtain ⟨nv, hnv⟩ : ∃ nv : Nat → PV, ∀ x, nv x = .w (.string (bs (t.1.getD x []))) := ⟨_, fun _ => rfl⟩
  have hres : PV.word (a.map fun k => t.1.getD k []) = .sl 1 (a.map nv) := by
    simp only [PV.word, List.map_map]
    have e : ((fun s => PV.w (Value.string (bs s))) ∘ fun k => t.1.getD k []) = nv := by funext x; simp [hnv]
    rw [e]
  rw [hres]
  refine FOk.val k40 (by simp) (by simp) (by decide) ?_
  rw [htc2]
  simp [c40]
  refine Run.loopA (ι := Nat) [(1, 2), (2, 5)] (fun i => i ≤ a.length) (fun i => ⟨[(1, .v (natsV a)), (2, .ptr 1 0 0), (5, .h 2), (6, .I i)], [(2, ⟨false, 1, (a.map nv).take i⟩), (1, ⟨false, 6, [tagV t]⟩)], 1024⟩) (fun i => a.length - i) 0 (by decide) (by simp [htc2]) (by simp) ?_
  rintro i hi ih
  by_cases h : i < a.length
  · have hk := ha _ (List.getElem_mem h)
    have hst : (a.map nv).take i ++ [nv a[i]] = (a.map nv).take (i + 1) := by
      rw [List.take_succ_eq_append_getElem (show i < (a.map nv).length by simpa using h)]; simp
    rw [hnv, show t.1.getD a[i] [] = t.1[a[i]] by simp [hk]] at hst
    generalize hx : a[i] = x at hk hst
    have hbl : (i + 1 + 1000) * 16 ≤ 70368744177664 := by omega
    have hmn : min i a.length = i := by omega
    simp (disch := (clear hbl; omega)) [h, hx, hk, wrap_i64, htc2, natsV, hbl, hmn]
    exact ih (i + 1) _ (by clear hbl; omega) (by clear hbl; omega) (by simp [htc2, natsV, hst])
  · have hil : i = a.length := by omega
    subst hil
    have hf : (a.map nv).take a.length = a.map nv := List.take_of_length_le (by simp)
    simp [natsV]
    exact Ends.v rfl (by simp [hf])
def bestR9 (t : TagT) (l : List Bs) : List Bs × Int × Bool × Int :=
  if chkF t l.length ≠ 0 then ([], 0, false, chkF t l.length) else match firstF t l 1 with
    | [] => ([], 0, false, 0)
    | x :: _ => (x.2.map fun k => t.1.getD k [], x.1, true, 0)
theorem fok16 (t : TagT) (l : List Bs) (ht : tagS t) (hl : l.length ≤ 200000000000000) : FOk Try.prog 16 [.v (tagV t), .v (.word l)] [] (.tup [.v (.word (bestR9 t l).1), .I (bestR9 t l).2.1, .B (bestR9 t l).2.2.1, .I (bestR9 t l).2.2.2]) [] := by
  have h1 := fok38 t l ht hl
  have hO := chkF_ok (t := t) (n := l.length)
  have htc2 : tagV t = .st [.word t.1, intsV t.2.1, intsV t.2.2.1, .sl 1 (t.2.2.2.1.map intsV), .sl 2 (t.2.2.2.2.1.map worthV), intsV t.2.2.2.2.2.1] := by
    obtain ⟨G, Fi, Z, P, W, U, uu⟩ := t; rfl
  have hfs := fun (hT : OkT t) (hn : l.length ≤ 200) => fok39 t l 1 hT hn (Nat.le_refl _) (by omega)
  have hfg := fun (hT : OkT t) (hn : l.length ≤ 200) => firstF_good hT hn (m := 0)
  have hnm := fun a => fok40 t a
  unfold bestR9
  generalize chkF t l.length = v at h1 hO ⊢
  change ∀ hT : OkT t, ∀ hn : l.length ≤ 200, ∀ x ∈ firstF t l 1, _ at hfg
  generalize firstF t l 1 = x at hfs hfg ⊢
  refine FOk.val k16 (by simp) (by simp) (by decide) ?_
  rw [htc2] at h1 hfs hnm ⊢
  by_cases hv : v = 0
  case neg =>
    simp [c16, hv]
    refine CallG.lent rfl rfl rfl rfl h1 rfl ?_
    simp [hv]
    exact Ends.v rfl (by simp [hv])
  subst hv
  obtain ⟨hT, hn⟩ := hO rfl
  have hfs := hfs hT hn
  have hfg := hfg hT hn
  simp [c16]
  refine CallG.lent rfl rfl rfl rfl h1 rfl ?_
  simp
  refine CallG.plain rfl rfl rfl rfl hfs (by simp) (by simp) ?_
  rcases x with _ | ⟨y, x⟩
  · simp [tailsV]
    exact Ends.v rfl (by simp)
  · obtain ⟨c, a⟩ := y
    obtain ⟨q1, q2⟩ := hfg (c, a) (by simp)
    have hna := hnm a q1 (by simp only at q2; omega)
    have hne : ¬ ((x.length : Int) + 1 = 0) := by omega
    simp [tailsV, tailV, hne]
    refine CallG.plain rfl rfl rfl rfl hna (by simp) (by simp) ?_
    simp
    exact Ends.v rfl (by simp)
def sevR9 (t : TagT) (l : List Bs) (m : Int) : List TlT × Bool × Int :=
  if chkF t l.length ≠ 0 then ([], false, chkF t l.length) else if m < 1 ∨ 200 < m then ([], false, 1) else
  ((firstF t l (m.toNat + 1)).take m.toNat, decide (m.toNat < (firstF t l (m.toNat + 1)).length), 0)
theorem fok19 (t : TagT) (l : List Bs) (m : Int) (ht : tagS t) (hl : l.length ≤ 200000000000000) : FOk Try.prog 19 [.v (tagV t), .v (.word l), .I m] [] (.tup [.v (.sl 2 ((sevR9 t l m).1.map fun x => rowV9 t x.1 x.2)), .B (sevR9 t l m).2.1, .I (sevR9 t l m).2.2]) [] := by
  have h1 := fok38 t l ht hl
  have hO := chkF_ok (t := t) (n := l.length)
  have htc2 : tagV t = .st [.word t.1, intsV t.2.1, intsV t.2.2.1, .sl 1 (t.2.2.2.1.map intsV), .sl 2 (t.2.2.2.2.1.map worthV), intsV t.2.2.2.2.2.1] := by
    obtain ⟨G, Fi, Z, P, W, U, uu⟩ := t; rfl
  have hnm := fun a => fok40 t a
  unfold sevR9
  generalize chkF t l.length = v at h1 hO ⊢
  generalize hres : (if v ≠ 0 then (([], false, v) : List TlT × Bool × Int) else if m < 1 ∨ 200 < m then ([], false, 1) else ((firstF t l (m.toNat + 1)).take m.toNat, decide (m.toNat < (firstF t l (m.toNat + 1)).length), 0)) = res
  refine FOk.val k19 (by simp) (by simp) (by decide) ?_
  rw [htc2] at h1 hnm ⊢
  simp [c19]
  refine CallG.lent rfl rfl rfl rfl h1 rfl ?_
  by_cases hv : v = 0
  case neg =>
    rw [if_pos hv] at hres
    subst hres
    simp [hv]
    exact Ends.v rfl (by simp)
  subst hv
  rw [if_neg (by simp)] at hres
  by_cases c1 : m < 1
  · rw [if_pos (.inl c1)] at hres
    subst hres
    simp [c1]
    exact Ends.v rfl (by simp)
  by_cases c2 : 200 < m
  · rw [if_pos (.inr c2)] at hres
    subst hres
    have c2' : ¬ m ≤ 200 := by omega
    simp [c1, c2, c2']
    exact Ends.v rfl (by simp)
  have c2' : m ≤ 200 := by omega
  rw [if_neg (by omega)] at hres
  obtain ⟨hT, hn⟩ := hO rfl
  obtain ⟨mm, rfl⟩ := Int.eq_ofNat_of_zero_le (show 0 ≤ m by omega)
  simp only [Int.ofNat_eq_natCast, Int.toNat_natCast] at hres
  have hfs := fok39 t l (mm + 1) hT hn (by omega) (by omega)
  have hfg := firstF_good hT hn (m := mm)
  have hfl := firstF_len hT (l := l) (m := mm)
  obtain ⟨x, hx⟩ : ∃ x, x = firstF t l (mm + 1) := ⟨_, rfl⟩
  have hres : res = (x.take mm, decide (mm < x.length), 0) := by rw [← hres, hx]
  rw [← hx] at hfs hfg hfl
  clear hx
  rw [htc2] at hfs
  push_cast at hfs
  obtain ⟨rv, hrv⟩ : ∃ rv : TlT → PV, rv = fun x => rowV9 t x.1 x.2 := ⟨_, rfl⟩
  have hrv2 : ∀ y, rv y = .st [.i y.1, .word (y.2.map fun k => t.1.getD k [])] := by intro y; rw [hrv]; rfl
  rw [← hrv]
  clear hrv
  have c1' : ¬ (mm : Int) < 1 := by omega
  simp (disch := omega) [c1, c2, c2', wrap_i64]
  refine CallG.plain rfl rfl rfl rfl hfs (by simp) (by simp) ?_
  simp
  refine Run.loopA (ι := Nat) [(1, 3), (2, 11)] (fun i => i ≤ x.length ∧ i ≤ mm) (fun i => ⟨[(2, .I mm), (3, .ptr 1 0 0), (10, .v (tailsV x)), (11, .h 2), (12, .I i)], [(2, ⟨false, 2, (x.map rv).take i⟩), (1, ⟨false, 6, [tagV t]⟩)], 1024⟩) (fun i => x.length - i) 0 (by decide) (by simp [htc2]) (by simp) ?_
  rintro i ⟨hi, hi2⟩ ih
  by_cases h : i < x.length ∧ i < mm
  · obtain ⟨h, h2⟩ := h
    have h' : (i : Int) < (x.length : Int) := by omega
    have h2' : (i : Int) < (mm : Int) := by omega
    obtain ⟨q1, q2⟩ := hfg _ (List.getElem_mem h)
    have hst : (x.map rv).take i ++ [rv x[i]] = (x.map rv).take (i + 1) := by
      rw [List.take_succ_eq_append_getElem (show i < (x.map rv).length by simpa using h)]; simp
    rw [hrv2] at hst
    generalize hy : x[i] = y at q1 q2 hst
    obtain ⟨c, a⟩ := y
    simp only at q1 q2 hst
    have hna := hnm a q1 (by omega)
    simp only [natsV] at hna
    have hbl : (i + 1 + 1000) * 32 ≤ 70368744177664 := by omega
    have hmn : min i x.length = i := by omega
    generalize (a.map fun k => t.1.getD k []) = ns at hna hst
    simp only [PV.i, PV.word] at hst
    simp (disch := (clear hbl; omega)) [h, h', h2, h2', hy, wrap_i64, htc2, tailsV, tailV, natsV]
    refine CallG.plain rfl rfl rfl rfl hna (by simp) (by simp) ?_
    simp (disch := (clear hbl; omega)) [wrap_i64, hbl, hmn]
    exact ih (i + 1) _ ⟨by clear hbl; omega, by clear hbl; omega⟩ (by clear hbl; omega) (by simp [htc2, hst, tailsV])
  · have hmi : i = min mm x.length := by omega
    have hout : (x.map rv).take i = (x.take mm).map rv := by
      rw [List.map_take]
      by_cases q : mm ≤ x.length
      · rw [show i = mm by omega]
      · rw [List.take_of_length_le (by simp; omega), List.take_of_length_le (by simp; omega)]
    subst hres
    rw [hout]
    simp only
    generalize (x.take mm).map rv = R
    by_cases h3 : i < x.length
    · have h4 : ¬ i < mm := by omega
      have h3' : (i : Int) < (x.length : Int) := by omega
      have h5 : mm < x.length := by omega
      have h5' : (mm : Int) < (x.length : Int) := by omega
      simp [h3, h3', h4, tailsV, h5, h5']
      exact Ends.v rfl (by simp)
    · have h5 : ¬ mm < x.length := by omega
      have h5' : ¬ (mm : Int) < (x.length : Int) := by omega
      have h3' : ¬ (i : Int) < (x.length : Int) := by omega
      simp [h3, h3', tailsV, h5, h5']
      exact Ends.v rfl (by simp)

end Go.Proofs

/- The walk. -/
import Derived.Test.YtphjjlhpepmofaaGreatF6
import Derived.Test.YtphjjlhpepmofaaGreatProg
import Derived.KernelRfl
set_option linter.all false
set_option maxHeartbeats 2000000
namespace Go.Proofs
open Go Go.AM
attribute [local irreducible] Run Ends
/-- ablaut/spell.Price -/
def c20 : MC :=
  .seq (.reg false [.op .none 3 (.box false (.t 0)),
    .op .none 6 (.mv (.c (.w (.int .i64 0)))),
    .op .none 7 (.mv (.c (.w (.int .i64 0))))]) <|
  .seq (.seq (.reg false [.op .none 9 (.ld true 5 (.t 3)),
    .op .none 10 (.mv (.t 1)),
    .op .none 11 (.mv (.t 2)),
    .op .none 12 (.buildS false 1 2 false [(.sl 1 [])] [(0, (.t 10)), (1, (.t 11))]),
    .call .none 13 (.f 38) [(.t 9), (.t 12)],
    .op .none 8 (.mv (.t 13))]) <|
  .seq (.reg false [.op .none 14 (.mv (.t 8)),
    .op .none 15 (.bin .neq (.t 14) (.c (.w (.int .i64 0))))]) <|
  .cond (.t 15)
    (.seq (.reg false [.op .none 16 (.mv (.t 8)),
      .op .none 6 (.mv (.c (.w (.int .i64 0)))),
      .op .none 7 (.mv (.t 16))]) <|
    .ret)
    (.skip)) <|
  .seq (.reg false [.op .none 17 (.ld true 5 (.t 3)),
    .op .none 18 (.mv (.t 1)),
    .op .none 19 (.mv (.t 2)),
    .call .none 20 (.f 41) [(.t 17), (.t 18), (.t 19)],
    .op .none 21 (.chk (.t 20)),
    .op .none 22 (.fa 7 (.t 21)),
    .op .none 23 (.iaA 61 61 (.t 22) (.c (.w (.int .i64 0)))),
    .op .none 24 (.iaA 61 1 (.t 23) (.c (.w (.int .i64 0)))),
    .op .none 25 (.ld false 1 (.t 24)),
    .op .none 6 (.mv (.t 25)),
    .op .none 7 (.mv (.c (.w (.int .i64 0))))]) <|
  .ret
theorem k20 : FnCode Tryz.prog 20 [] 26 [6, 7] c20 := ⟨Tryz.f20, Tryz.func20, fun xs W => Tryz.call20 xs W, by kernel_rfl, by kernel_rfl, by kernel_rfl⟩

/-- ablaut/ablautlaw23.known -/
def c8 : MC :=
  .seq (.reg false [.op .none 0 (.mv (.c (.w (.bool false))))]) <|
  .seq (.reg false [.op .none 4 (.build false [(.w (.string ⟨#[]⟩)), (.w (.string ⟨#[]⟩)), (.w (.int .i64 0))] [(0, 1, (.c (.w (.string ⟨#[97]⟩)))), (1, 1, (.c (.w (.string ⟨#[115]⟩)))), (2, 1, (.c (.w (.int .i64 1))))]),
    .op .none 5 (.buildS false 3 1 true [(.w (.string ⟨#[]⟩)), (.w (.string ⟨#[]⟩)), (.w (.int .i64 0))] [(0, (.t 4))]),
    .op .none 6 (.build false [(.w (.int .i64 0)), (.w (.int .i64 0)), (.w (.int .i64 0)), (.w (.int .i64 0)), (.sl 3 [])] [(0, 1, (.c (.w (.int .i64 2)))), (1, 1, (.c (.w (.int .i64 2)))), (3, 1, (.c (.w (.int .i64 3)))), (2, 1, (.c (.w (.int .i64 2)))), (4, 1, (.t 5))]),
    .op .none 1 (.alloc true [(.w (.int .i64 0)), (.w (.int .i64 0)), (.w (.int .i64 0)), (.w (.int .i64 0)), (.sl 3 [])]),
    .store .none (.stt true 5 (.t 1) (.t 6))]) <|
  .seq (.reg false [.op .none 8 (.ld true 5 (.t 1)),
    .op .none 9 (.buildS false 1 3 false [(.w (.string ⟨#[]⟩))] [(0, (.c (.w (.string ⟨#[99]⟩)))), (1, (.c (.w (.string ⟨#[115]⟩)))), (2, (.c (.w (.string ⟨#[116]⟩))))]),
    .op .none 10 (.buildS false 1 3 false [(.w (.string ⟨#[]⟩))] [(0, (.c (.w (.string ⟨#[99]⟩)))), (1, (.c (.w (.string ⟨#[97]⟩)))), (2, (.c (.w (.string ⟨#[116]⟩))))]),
    .call .none 11 (.f 20) [(.t 8), (.t 9), (.t 10)],
    .op .none 7 (.mv (.t 11)),
    .op .none 12 (.ext (.t 7) 0),
    .op .none 13 (.ext (.t 7) 1),
    .op .none 2 (.mv (.t 12)),
    .op .none 3 (.mv (.t 13))]) <|
  .seq (.reg false [.op .none 14 (.mv (.t 3)),
    .op .none 15 (.bin .eql (.t 14) (.c (.w (.int .i64 0)))),
    .op .none 16 (.mv (.t 15)),
    .op (.some (16, true)) 17 (.mv (.t 2)),
    .op (.some (16, true)) 18 (.bin .eql (.t 17) (.c (.w (.int .i64 1)))),
    .op .none 19 (.pick (.t 16) (.t 18) (.c (.w (.bool false)))),
    .op .none 0 (.mv (.t 19))]) <|
  .ret
theorem k8 : FnCode Tryz.prog 8 [] 20 [0] c8 := ⟨Tryz.f8, Tryz.func8, fun xs W => Tryz.call8 xs W, by kernel_rfl, by kernel_rfl, by kernel_rfl⟩

/-- ablaut/ablautlaw23.over -/
def c13 : MC :=
  .seq (.reg false [.op .none 1 (.box false (.t 0)),
    .op .none 2 (.mv (.c (.w (.bool false))))]) <|
  .seq (.reg false [.op .none 5 (.fa 4 (.t 1)),
    .op .none 6 (.ld false 1 (.t 5)),
    .op .none 7 (.len false (.t 6)),
    .op .none 3 (.mv (.t 7))]) <|
  .seq (.seq (.reg false [.op .none 4 (.mv (.c (.w (.int .i64 0))))]) <|
  .block 0 <|
    .loop <|
      .seq (.seq (.reg false [.op .none 8 (.mv (.t 4)),
        .op .none 9 (.fa 4 (.t 1)),
        .op .none 10 (.ld false 1 (.t 9)),
        .op .none 11 (.len false (.t 10)),
        .op .none 12 (.bin .lss (.t 8) (.t 11)),
        .op .none 13 (.mv (.t 12)),
        .op (.some (13, true)) 14 (.mv (.t 3)),
        .op (.some (13, true)) 15 (.bin .leq (.t 14) (.c (.w (.int .i64 100000)))),
        .op .none 16 (.pick (.t 13) (.t 15) (.c (.w (.bool false))))]) <|
      .cond (.t 16)
        (.skip)
        (.exit 0)) <|
      .seq (.block 1 <|
        .reg true [.op .none 19 (.mv (.t 3)),
          .op .none 20 (.fa 4 (.t 1)),
          .op .none 21 (.ld false 1 (.t 20)),
          .op .none 22 (.mv (.t 4)),
          .op .none 23 (.ia 3 (.t 21) (.t 22)),
          .op .none 24 (.fa 0 (.t 23)),
          .op .none 25 (.ld false 1 (.t 24)),
          .op .none 26 (.len true (.t 25)),
          .op .none 27 (.fa 4 (.t 1)),
          .op .none 28 (.ld false 1 (.t 27)),
          .op .none 29 (.mv (.t 4)),
          .op .none 30 (.ia 3 (.t 28) (.t 29)),
          .op .none 31 (.fa 1 (.t 30)),
          .op .none 32 (.ld false 1 (.t 31)),
          .op .none 33 (.len true (.t 32)),
          .op .none 34 (.bin .add (.t 26) (.t 33)),
          .op .none 35 (.bin .add (.t 19) (.t 34)),
          .op .none 3 (.mv (.t 35))]) <|
      .reg false [.op .none 17 (.mv (.t 4)),
        .op .none 18 (.bin .add (.t 17) (.c (.w (.int .i64 1)))),
        .op .none 4 (.mv (.t 18))]) <|
  .seq (.reg false [.op .none 36 (.mv (.t 3)),
    .op .none 37 (.bin .gtr (.t 36) (.c (.w (.int .i64 100000)))),
    .op .none 2 (.mv (.t 37))]) <|
  .ret
theorem k13 : FnCode Tryz.prog 13 [] 38 [2] c13 := ⟨Tryz.f13, Tryz.func13, fun xs W => Tryz.call13 xs W, by kernel_rfl, by kernel_rfl, by kernel_rfl⟩

theorem tab_7 (p : PricesT) (a b : List Bs) (T : List Int) : (tabC p a b T)[7]? = (T[0]?).map tI := by
  have := tab_at p a b T 0 0; simpa using this
theorem tabF_0 (p : PricesT) (a b : List Bs) (ha : a.length ≤ 60) (hb : b.length ≤ 60) : (tabF p a b)[0]? = some (pr p a b) := by
  have := tabD_get p a b (i := 0) (J := 0) (i' := 0) (j' := 0) (by omega) (by omega) (by omega) ha hb
  simpa [tabF] using this
theorem vWords_ok : ∀ {ws : List (List Bs)}, vWords ws = 0 → ∀ w ∈ ws, vWord w = 0
  | [], _, _, h => by cases h
  | w :: l, h, x, hx => by
    simp only [vWords] at h
    by_cases h1 : vWord w = 0
    · rw [if_pos h1] at h
      rcases List.mem_cons.1 hx with rfl | hx
      · exact h1
      · exact vWords_ok h x hx
    · rw [if_neg h1] at h; exact absurd h h1
theorem vChecked_ok {p : PricesT} {ws : List (List Bs)} (h : vChecked p ws = 0) : OkP p ∧ ∀ w ∈ ws, w.length ≤ 60 := by
  unfold vChecked at h
  by_cases h1 : vPrices p = 0
  · rw [if_pos h1] at h
    exact ⟨vPrices_ok h1, fun w hw => vWord_ok (vWords_ok h w hw)⟩
  · rw [if_neg h1] at h; exact absurd h h1
/-- The price of a word for another one. -/
def priceF (p : PricesT) (a b : List Bs) : Int × Int := if vChecked p [a, b] = 0 then (pr p a b, 0) else (0, vChecked p [a, b])
theorem fok20 (p : PricesT) (a b : List Bs) (hp : prS p) (ha : wordS a) (hb : wordS b) :
    FOk Tryz.prog 20 [.v (pricesV p), .v (PV.word a), .v (PV.word b)] [] (.tup [.I (priceF p a b).1, .I (priceF p a b).2]) [] := by
  have hc := fok38 p [a, b] hp (by simp [ha, hb]) (by simp)
  refine FOk.val k20 (by simp) (by simp) (by decide) ?_
  simp [c20, pricesV]
  refine CallG.lent rfl rfl rfl rfl hc rfl ?_
  simp
  refine ⟨fun h => Ends.v rfl (by simp [priceF, h]), fun h => ?_⟩
  obtain ⟨h1, h2⟩ := vChecked_ok h
  have ha := h2 a (by simp)
  have hb := h2 b (by simp)
  refine CallG.plain rfl rfl rfl rfl (fok41 p a b h1 ha hb) (by simp) (by simp) ?_
  simp [tab_7, tabF_0 p a b ha hb]
  exact Ends.v rfl (by simp [priceF, h])

def exP : PricesT := (2, 2, 2, 3, [([97], [115], 1, ())], ())
theorem exF : priceF exP [[99], [115], [116]] [[99], [97], [116]] = (1, 0) := by decide +kernel
theorem fok8 : FOk Tryz.prog 8 [] [] (.B true) [] := by
  have h := fok20 exP [[99], [115], [116]] [[99], [97], [116]] (by simp [prS, exP, nearS]) (by simp [wordS]) (by simp [wordS])
  rw [exF] at h
  refine FOk.val k8 (by simp) (by simp) (by decide) ?_
  simp [c8]
  refine CallG.lent rfl rfl rfl rfl h rfl ?_
  simp
  exact Ends.v rfl (by simp)

/-- How much there is in prices, if it is not far too much. -/
def ovr : List NearT → Nat → Nat
  | [], n => n
  | x :: l, n => if n ≤ 100000 then ovr l (n + (x.1.length + x.2.1.length)) else n
def overF (p : PricesT) : Bool := decide (100000 < ovr p.2.2.2.2.1 p.2.2.2.2.1.length)
theorem fok13 (p : PricesT) (hp : prS p) (hl : p.2.2.2.2.1.length ≤ 200000000000000) : FOk Tryz.prog 13 [.v (pricesV p)] [] (.B (overF p)) [] := by
  obtain ⟨pd, pp, ps, pc, l, u⟩ := p
  simp only [prS] at hp hl
  refine FOk.val k13 (by simp) (by simp) (by decide) ?_
  simp [c13, pricesV]
  refine Run.loopI (ι := Nat × Nat) (fun q => q.1 ≤ l.length ∧ ovr (l.drop q.1) q.2 = ovr l l.length) (fun q => ⟨[(1, .ptr 1 0 0), (3, .I q.2), (4, .I q.1)], [(1, ⟨false, 5, [pricesV (pd, pp, ps, pc, l, u)]⟩)], 1024⟩) (fun q => l.length - q.1) (0, l.length) [(1, 1025)] (by decide) (by simp [pricesV]) ⟨by simp, by simp⟩ ?_
  rintro ⟨i, n⟩ ⟨hi, hall⟩ ih
  simp only at hi hall ih ⊢
  by_cases h : i < l.length
  · rw [drop_at h] at hall
    simp only [ovr] at hall
    have hs := hp l[i] (List.getElem_mem h)
    obtain ⟨hs1, hs2⟩ := hs
    by_cases hn : n ≤ 100000
    · rw [if_pos hn] at hall
      simp (disch := omega) [h, hn, wrap_i64, pricesV, nearV]
      exact ih (i + 1, n + (l[i].1.length + l[i].2.1.length)) [(1, 1)] _ ⟨by simp; omega, hall⟩ (by simp; omega) (by simp [pricesV])
    · rw [if_neg hn] at hall
      simp (disch := omega) [h, hn, wrap_i64, pricesV, nearV]
      exact Ends.v rfl (by simp [overF, ← hall])
  · rw [drop_no h] at hall
    simp only [ovr] at hall
    simp (disch := omega) [h, wrap_i64, pricesV, nearV]
    exact Ends.v rfl (by simp [overF, ← hall])

end Go.Proofs

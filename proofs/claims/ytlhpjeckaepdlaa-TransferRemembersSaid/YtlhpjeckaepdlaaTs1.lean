/- The walk. -/
import Derived.Test.YtlhpjeckaepdlaaTr7
import Derived.Test.YtlhpjeckaepdlaaProg
import Derived.KernelRfl
set_option linter.all false
set_option maxHeartbeats 2000000
namespace Go.Proofs
open Go Go.AM
attribute [local irreducible] Run Ends
/-- slices.DeleteFunc[[]string,string] -/
def c97 : MC :=
  .seq (.reg false [.op .none 4 (.nilS 1)]) <|
  .seq (.reg false [.op .none 8 (.mv (.t 0)),
    .op .none 9 (.mv (.t 1)),
    .call .none 10 (.f 112) [(.t 8), (.t 9)],
    .op .none 5 (.mv (.t 10))]) <|
  .seq (.seq (.reg false [.op .none 11 (.mv (.t 5)),
    .op .none 12 (.bin .eql (.t 11) (.c (.w (.int .i64 (-1)))))]) <|
  .cond (.t 12)
    (.seq (.reg false [.op .none 13 (.mv (.t 0)),
      .op .none 4 (.mv (.t 13))]) <|
    .ret)
    (.skip)) <|
  .seq (.seq (.reg false [.op .none 14 (.mv (.t 5)),
    .op .none 15 (.bin .add (.t 14) (.c (.w (.int .i64 1)))),
    .op .none 6 (.mv (.t 15))]) <|
  .block 0 <|
    .loop <|
      .seq (.seq (.reg false [.op .none 16 (.mv (.t 6)),
        .op .none 17 (.mv (.t 0)),
        .op .none 18 (.len false (.t 17)),
        .op .none 19 (.bin .lss (.t 16) (.t 18))]) <|
      .cond (.t 19)
        (.skip)
        (.exit 0)) <|
      .seq (.block 1 <|
        .seq (.reg false [.op .none 22 (.mv (.t 0)),
          .op .none 23 (.mv (.t 6)),
          .op .none 24 (.ia 1 (.t 22) (.t 23)),
          .op .none 25 (.ld false 1 (.t 24)),
          .op .none 7 (.mv (.t 25))]) <|
        .seq (.reg false [.op .none 26 (.mv (.t 1)),
          .op .none 27 (.mv (.t 7)),
          .call .none 28 (.t 26) [(.t 27)],
          .op .none 29 (.un .not (.t 28))]) <|
        .cond (.t 29)
          (.seq (.reg false [.op .none 30 (.mv (.t 0)),
            .op .none 31 (.mv (.t 5)),
            .op .none 32 (.mv (.t 7)),
            .op .none 33 (.ia 1 (.t 30) (.t 31)),
            .store .none false 1 (.t 33) (.t 32)]) <|
          .reg false [.op .none 34 (.mv (.t 5)),
            .op .none 35 (.bin .add (.t 34) (.c (.w (.int .i64 1)))),
            .op .none 5 (.mv (.t 35))])
          (.skip)) <|
      .reg false [.op .none 20 (.mv (.t 6)),
        .op .none 21 (.bin .add (.t 20) (.c (.w (.int .i64 1)))),
        .op .none 6 (.mv (.t 21))]) <|
  .seq (.reg false [.op .none 36 (.mv (.t 0)),
    .op .none 37 (.mv (.t 5)),
    .op .none 38 (.slcP 1 (.t 36) (.some (.t 37)) .none),
    .op .none 1023 (.clr 1 false [(.w (.string ⟨#[]⟩))] (.t 38))]) <|
  .seq (.reg false [.op .none 39 (.mv (.t 0)),
    .op .none 40 (.mv (.t 5)),
    .op .none 41 (.slc true 1 (.t 39) .none (.some (.t 40))),
    .op .none 4 (.mv (.t 41))]) <|
  .ret
theorem k97 : FnCode Try.prog 97 [41, 200038] 42 [4] c97 := ⟨Try.f97, Try.func97, fun xs W => Try.call97 xs W, by kernel_rfl, by kernel_rfl, by kernel_rfl⟩

theorem fok59 (u : UnitT) : FOk Try.prog 59 [.v (unitV u)] [] (.B (decide (16 < u.2.1.length))) [] := by
  obtain ⟨b, t, v⟩ := u
  refine FOk.val k59 (by simp) (by simp) (by decide) ?_
  simp [c59, unitV]
  exact Ends.v rfl (by simp)
def inBut (take fr : List Bs) (s : Bs) : Bool := inW take s && !inW fr s
theorem fok98 (x : SlotT) (fr : List Bs) (s : Bs) (hx : slotS x) (hf : fr.length ≤ 200000000000000) : FOk Try.prog 98 [.v (txtV s), .rp (slotV x).cells, .rp [.word fr]] [] (.B (inBut x.2.2.2.2.1 fr s)) [] := by
  obtain ⟨o, b, t, f, k, u⟩ := x
  have h1 := fok69 k s hx.2.1.1
  have h2 := fok69 fr s hf
  refine FOk.val k98 (by simp) (by simp [slotV]) (by decide) ?_
  simp [c98, slotV, txtV]
  refine CallG.lent rfl rfl rfl rfl h1 rfl ?_
  simp only [inBut]
  cases inW k s
  · simp
    exact Ends.v rfl (by simp)
  · simp
    refine CallG.lent rfl rfl rfl rfl h2 rfl ?_
    simp
    exact Ends.v rfl (by simp)
/-- A clone is a row of its own. -/
theorem fokO74 (w : List Bs) (hw : w.length ≤ 1000000000) : FOk Try.prog 74 [.v (.word w)] [] (.h 0) [(0, ⟨false, 1, w.map fun s => .w (.string (bs s))⟩)] := by
  refine FOk.of k74 0 (by simp) (by decide) (by simp) (by simp) (by simp [find]) (by decide) ?_
  rcases w with _ | ⟨s, w⟩
  · simp [c74]
    exact ⟨Ends.new 17410 rfl rfl (by simp) (by simp), Ends.new 17415 rfl rfl (by simp) (by simp)⟩
  · have h2 : (w.length + 1 + 1000) * 16 ≤ 70368744177664 := by simp at hw; omega
    simp [c74, h2]
    exact Ends.new 17415 rfl rfl (by simp) (by simp)
theorem filter_none {α : Type} {p : α → Bool} : ∀ {l : List α}, (∀ x ∈ l, p x = false) → l.filter (fun x => !p x) = l
  | [], _ => rfl
  | x :: l, h => by
    have h1 := h x (by simp)
    simp [h1, filter_none (l := l) fun y hy => h y (by simp [hy])]
theorem find_none {α : Type} {p : α → Bool} : ∀ {l : List α}, l.find? p = none → ∀ x ∈ l, p x = false := by
  intro l h x hx
  have := List.find?_eq_none.1 h x hx
  simpa using this
/-- What is dropped. -/
theorem fok97 (l : List Bs) (u : AV) (f : Nat) (caps : List AV) (hu : Fix u f caps) (p : Bs → Bool) (hf : ∀ x ∈ l, FOk Try.prog f (.v (txtV x) :: caps) [] (.B (p x)) []) (hl : l.length ≤ 200000000000000) :
    FOk Try.prog 97 [.h 0, u] [(0, ⟨false, 1, l.map txtV⟩)] (.h 1) [(1, ⟨false, 1, (l.filter fun x => !p x).map txtV⟩)] := by
  have hm := hu.men
  have hcv := hu.conv
  have hpa := hu.pass
  have hfn := hu.fn
  have hfz := hu.frz
  have h1 := fok112 l u f caps hu p hf hl
  refine FOk.of k97 1 (by simp) (by decide) (by simp) (by intro k h; simp at h; exact h.elim (fun h => by omega) (fun h => absurd h (hm k))) (by simp [find]; rintro _ _ _ rfl rfl _ rfl; rfl) (by decide) ?_
  simp [c97]
  refine CallG.lent rfl rfl rfl (by simp [hpa]) h1 rfl ?_
  rcases idxF_find p l 0 with ⟨q, hq⟩ | ⟨k, hk0, hk, hkf, hkp, hkn⟩
  · rw [q]
    simp
    exact Ends.moved 9 0 (by decide) rfl rfl (by simp) (by simp [filter_none (find_none hq)])
  rw [hk0]
  have hk2 : ¬ (k : Int) = -1 := by omega
  have hf0 : (l.take (k + 1)).filter (fun x => !p x) = l.take k := by
    rw [List.take_succ_eq_append_getElem hk, List.filter_append, filter_none hkn]
    simp [hkp]
  simp (disch := omega) [wrap_i64, hk2]
  refine Run.loopA (ι := Nat × List PV) [(0, 0)] (fun q => q.1 ≤ l.length ∧ q.2.length = l.length ∧ ((l.take q.1).filter fun x => !p x).length < q.1 ∧ q.2.take ((l.take q.1).filter fun x => !p x).length = ((l.take q.1).filter fun x => !p x).map txtV ∧ q.2.drop q.1 = (l.map txtV).drop q.1 ∧ ∀ x ∈ q.2, ∃ s, x = txtV s)
    (fun q => ⟨[(0, .h 0), (1, u), (5, .I ((l.take q.1).filter fun x => !p x).length), (6, .I q.1)], [(0, ⟨false, 1, q.2⟩)], 1024⟩) (fun q => l.length - q.1) (k + 1, l.map txtV) (by decide) (by simp [hf0, hcv]; omega) ⟨by simp; omega, by simp, by simp [hf0]; omega, ?_, rfl, fun x hx => by obtain ⟨w, _, rfl⟩ := List.mem_map.1 hx; exact ⟨w, rfl⟩⟩ ?_
  · simp only [hf0, List.length_take, List.map_take]
    rw [Nat.min_eq_left (by omega)]
  rintro ⟨j, R⟩ ⟨g1, g2, g3, g4, g5, g6⟩ ih
  simp only at g1 g2 g3 g4 g5 g6 ih
  generalize hi : ((l.take j).filter fun x => !p x).length = i at g3 g4 ih ⊢
  by_cases h : j < l.length
  · have hj : R[j]? = some (txtV l[j]) := by
      have := congrArg (·[0]?) g5
      simp only [List.getElem?_drop, Nat.add_zero] at this
      rw [this]; simp [h]
    obtain ⟨b1, b1'⟩ := List.getElem?_eq_some_iff.1 hj
    have hcall := hf l[j] (List.getElem_mem h)
    have hst : (l.take (j + 1)).filter (fun x => !p x) = (l.take j).filter (fun x => !p x) ++ (if p l[j] = true then [] else [l[j]]) := by
      rw [List.take_succ_eq_append_getElem h, List.filter_append]
      cases hpj : p l[j] <;> simp [hpj]
    have g5' : R.drop (j + 1) = (l.map txtV).drop (j + 1) := by
      have := congrArg (·.drop 1) g5
      simpa [List.drop_drop] using this
    have e0 : i < R.length := by omega
    simp (disch := omega) [wrap_i64, h, g2, b1, b1', txtV]
    refine CallG.lent rfl hfn rfl (passAs_cons rfl (hu.passC _ _)) hcall rfl ?_
    cases hpj : p l[j]
    · rw [hpj] at hst
      simp only [Bool.false_eq_true, if_false] at hst
      have hlen : ((l.take (j + 1)).filter fun x => !p x).length = i + 1 := by rw [hst, List.length_append, hi]; rfl
      obtain ⟨w0, hw0⟩ := g6 _ (List.getElem_mem e0)
      simp (disch := omega) [wrap_i64, e0, hw0, txtV]
      refine ih (j + 1, R.set i (txtV l[j])) _ ⟨by simp; omega, by simpa using g2, by simp only [hlen]; omega, ?_, ?_, ?_⟩ (by simp; omega) ?_
      · simp only [hst]
        rw [List.length_append, hi, List.length_singleton, List.take_succ_eq_append_getElem (by simpa using e0), List.take_set_of_le (Nat.le_refl _), g4]
        simp
      · simp only []
        rw [List.drop_set_of_lt (by omega)]
        exact g5'
      · intro x hx
        rcases List.mem_or_eq_of_mem_set hx with hx | rfl
        · exact g6 x hx
        · exact ⟨_, rfl⟩
      · simp [hlen, hcv, txtV]
    · rw [hpj] at hst
      simp only [if_true, List.append_nil] at hst
      simp (disch := omega) [wrap_i64]
      exact ih (j + 1, R) _ ⟨by simp; omega, g2, by simp only [hst, hi]; omega, by simp only [hst, hi]; exact g4, g5', g6⟩ (by simp; omega) (by simp [hst, hi, hcv])
  · have hjl : j = l.length := by omega
    subst hjl
    rw [List.take_length] at g4 hi
    have e1 : i < R.length := by omega
    have e2 : i ≤ R.length := by omega
    have e5 : ¬ R.length - i = 0 := by omega
    have e6 : i + (R.length - i) ≤ R.length := by omega
    have e3 : ¬ l.length - i = 0 := by omega
    have e7 : i < l.length := by omega
    have e8 : i ≤ l.length := by omega
    have e9 : i + (l.length - i) ≤ l.length := by omega
    simp (disch := omega) [wrap_i64, h, g2, e1, e2, e3, e5, e6, e7, e8, e9]
    exact Ends.moved 0 17449 (by decide) rfl rfl (by simp) (by simp [g4]; exact List.take_left' (by simp [hi]))

end Go.Proofs

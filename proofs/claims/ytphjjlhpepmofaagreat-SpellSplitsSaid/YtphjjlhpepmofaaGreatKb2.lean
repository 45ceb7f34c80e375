/- The walk. -/
import Derived.Test.YtphjjlhpepmofaaGreatSo
import Derived.Test.YtphjjlhpepmofaaGreatF2
import Derived.Test.YtphjjlhpepmofaaGreatAMV
import Derived.Test.YtphjjlhpepmofaaGreatProg
import Derived.KernelRfl
set_option linter.all false
set_option maxHeartbeats 2000000
namespace Go.Proofs
open Go Go.AM
attribute [local irreducible] Run Ends
/-- ablaut/ablautref01.Set -/
def c92 : MC :=
  .seq (.reg false [.op .none 2 (.nilS 1)]) <|
  .seq (.reg false [.op .none 3 (.nilS 1)]) <|
  .block 0 <|
    .loop <|
      .block 1 <|
        .seq (.reg false [.op .none 4 (.mv (.c (.w (.string ⟨#[]⟩)))),
          .op .none 5 (.mv (.c (.w (.bool false))))]) <|
        .seq (.seq (.reg false [.op .none 6 (.mv (.c (.w (.int .i64 0))))]) <|
        .block 2 <|
          .loop <|
            .seq (.seq (.reg false [.op .none 7 (.mv (.t 6)),
              .op .none 8 (.mv (.t 0)),
              .op .none 9 (.len false (.t 8)),
              .op .none 10 (.bin .lss (.t 7) (.t 9))]) <|
            .cond (.t 10)
              (.skip)
              (.exit 2)) <|
            .seq (.block 3 <|
              .seq (.reg true [.op .none 13 (.mv (.t 3)),
                .op .none 14 (.len false (.t 13)),
                .op .none 15 (.bin .eql (.t 14) (.c (.w (.int .i64 0)))),
                .op .none 16 (.mv (.t 15)),
                .op (.some (16, false)) 17 (.mv (.t 0)),
                .op (.some (16, false)) 18 (.mv (.t 6)),
                .op (.some (16, false)) 19 (.ia 1 (.t 17) (.t 18)),
                .op (.some (16, false)) 20 (.ld false 1 (.t 19)),
                .op (.some (16, false)) 21 (.mv (.t 3)),
                .op (.some (16, false)) 22 (.mv (.t 3)),
                .op (.some (16, false)) 23 (.len false (.t 22)),
                .op (.some (16, false)) 24 (.bin .sub (.t 23) (.c (.w (.int .i64 1)))),
                .op (.some (16, false)) 25 (.ia 1 (.t 21) (.t 24)),
                .op (.some (16, false)) 26 (.ld false 1 (.t 25)),
                .op (.some (16, false)) 27 (.bin .gtr (.t 20) (.t 26)),
                .op .none 28 (.pick (.t 16) (.c (.w (.bool true))) (.t 27)),
                .op .none 29 (.mv (.t 28)),
                .op (.some (29, true)) 30 (.mv (.t 5)),
                .op (.some (29, true)) 31 (.un .not (.t 30)),
                .op (.some (29, true)) 32 (.mv (.t 31)),
                .op (.some (32, false)) 33 (.mv (.t 0)),
                .op (.some (32, false)) 34 (.mv (.t 6)),
                .op (.some (32, false)) 35 (.ia 1 (.t 33) (.t 34)),
                .op (.some (32, false)) 36 (.ld false 1 (.t 35)),
                .op (.some (32, false)) 37 (.mv (.t 4)),
                .op (.some (32, false)) 38 (.bin .lss (.t 36) (.t 37)),
                .op (.some (29, true)) 39 (.pick (.t 32) (.c (.w (.bool true))) (.t 38)),
                .op .none 40 (.pick (.t 29) (.t 39) (.c (.w (.bool false))))]) <|
              .cond (.t 40)
                (.reg false [.op .none 41 (.mv (.t 0)),
                  .op .none 42 (.mv (.t 6)),
                  .op .none 43 (.ia 1 (.t 41) (.t 42)),
                  .op .none 44 (.ld false 1 (.t 43)),
                  .op .none 4 (.mv (.t 44)),
                  .op .none 5 (.mv (.c (.w (.bool true))))])
                (.skip)) <|
            .reg false [.op .none 11 (.mv (.t 6)),
              .op .none 12 (.bin .add (.t 11) (.c (.w (.int .i64 1)))),
              .op .none 6 (.mv (.t 12))]) <|
        .seq (.seq (.reg false [.op .none 45 (.mv (.t 5)),
          .op .none 46 (.un .not (.t 45))]) <|
        .cond (.t 46)
          (.seq (.reg false [.op .none 47 (.mv (.t 3)),
            .op .none 2 (.mv (.t 47))]) <|
          .ret)
          (.skip)) <|
        .reg false [.op .none 48 (.mv (.t 3)),
          .op .none 49 (.mv (.t 4)),
          .op .none 50 (.buildS false 1 1 false [(.w (.string ⟨#[]⟩))] [(0, (.t 49))]),
          .op .none 51 (.app 1 16 (.t 48) (.t 50)),
          .op .none 3 (.mv (.t 51))]
theorem k92 : FnCode Tryz.prog 92 [] 52 [2] c92 := ⟨Tryz.f92, Tryz.func92, fun xs W => Tryz.call92 xs W, by kernel_rfl, by kernel_rfl, by kernel_rfl⟩

/-! The texts in order, each once. -/
def abv (O : List Bs) (x : Bs) : Bool := match O.getLast? with | none => true | some o => ltB o x
def opLt (acc : Option Bs) (x : Bs) : Bool := match acc with | none => true | some b => ltB x b
def nxtF (O : List Bs) (acc : Option Bs) (x : Bs) : Option Bs := if abv O x = true ∧ opLt acc x = true then some x else acc
def setL (w : List Bs) : List Bs := w.foldl (into cmpB) []
def OkO (w O : List Bs) : Prop := O.Pairwise (fun a b => cmpB a b < 0) ∧ (∀ x ∈ O, x ∈ w) ∧ ∀ x ∈ w, x ∈ O ∨ abv O x = true
theorem abv_nil (x : Bs) : abv [] x = true := rfl
theorem abv_snoc (P : List Bs) (o x : Bs) : abv (P ++ [o]) x = ltB o x := by simp [abv]
theorem abv_all {O : List Bs} (h : O.Pairwise fun a b => cmpB a b < 0) {x : Bs} (hx : abv O x = true) : ∀ o ∈ O, ltB o x = true := by
  rcases List.eq_nil_or_concat O with rfl | ⟨P, o, rfl⟩
  · simp
  · rw [List.concat_eq_append] at h hx ⊢
    rw [abv_snoc] at hx
    intro y hy
    rcases List.mem_append.1 hy with hy | hy
    · have := (List.pairwise_append.1 h).2.2 y hy o (by simp)
      exact ltB_trans (cmpB_neg.1 this) hx
    · simp at hy; subst hy; exact hx
/-- The least one above. -/
theorem nxt_ok (O : List Bs) : ∀ (w : List Bs) (acc : Option Bs), (∀ b, acc = some b → abv O b = true) →
    match w.foldl (nxtF O) acc with
    | none => acc = none ∧ ∀ x ∈ w, abv O x = false
    | some b => abv O b = true ∧ (acc = some b ∨ b ∈ w) ∧ (∀ x ∈ w, abv O x = true → ltB x b = false) ∧ ∀ a, acc = some a → ltB a b = false
  | [], acc, h => by
    cases acc with
    | none => simp
    | some a => simp [h a rfl, ltB_irrefl]
  | y :: w, acc, h => by
    have h2 : ∀ b, nxtF O acc y = some b → abv O b = true := fun b hb => by
      unfold nxtF at hb
      split at hb
      · rename_i h3; cases hb; exact h3.1
      · exact h b hb
    have ih := nxt_ok O w (nxtF O acc y) h2
    rw [List.foldl_cons]
    generalize hr : w.foldl (nxtF O) (nxtF O acc y) = r at ih ⊢
    cases r with
    | none =>
      simp only at ih ⊢
      obtain ⟨h3, h4⟩ := ih
      unfold nxtF at h3
      split at h3
      · cases h3
      · rename_i h5
        subst h3
        refine ⟨rfl, fun x hx => ?_⟩
        rcases List.mem_cons.1 hx with rfl | hx
        · simpa [opLt] using h5
        · exact h4 x hx
    | some b =>
      simp only at ih ⊢
      obtain ⟨h3, h4, h5, h6⟩ := ih
      unfold nxtF at h4 h6
      split at h4
      · rename_i h7
        rw [if_pos h7] at h6
        have h8 := h6 y rfl
        refine ⟨h3, ?_, fun x hx hx2 => ?_, fun a ha => ?_⟩
        · rcases h4 with h4 | h4
          · cases h4; exact .inr (by simp)
          · exact .inr (List.mem_cons_of_mem _ h4)
        · rcases List.mem_cons.1 hx with rfl | hx
          · exact h8
          · exact h5 x hx hx2
        · subst ha
          cases h9 : ltB a b
          · rfl
          · have := ltB_trans h7.2 h9; rw [h8] at this; cases this
      · rename_i h7
        rw [if_neg h7] at h6
        refine ⟨h3, ?_, fun x hx hx2 => ?_, h6⟩
        · rcases h4 with h4 | h4
          · exact .inl h4
          · exact .inr (List.mem_cons_of_mem _ h4)
        · rcases List.mem_cons.1 hx with rfl | hx
          · cases acc with
            | none => exact absurd ⟨hx2, rfl⟩ h7
            | some a =>
              have h8 := h6 a rfl
              cases h9 : ltB x b
              · rfl
              · exfalso
                refine h7 ⟨hx2, ?_⟩
                simp only [opLt]
                cases h10 : ltB x a
                · exfalso
                  rcases Classical.em (x = a) with rfl | hne
                  · rw [h8] at h9; cases h9
                  · cases h11 : ltB a x
                    · exact hne (ltB_total h10 h11)
                    · have := ltB_trans h11 h9; rw [h8] at this; cases this
                · rfl
          · exact h5 x hx hx2
theorem OkO.done {w O : List Bs} (h : OkO w O) (hn : w.foldl (nxtF O) none = none) : O = setL w := by
  have h1 := nxt_ok O w none (by simp)
  rw [hn] at h1
  refine asc_one linB h.1 (intos_pw linB .nil) fun x => ?_
  rw [show setL w = w.foldl (into cmpB) [] from rfl, intos_mem]
  simp only [List.not_mem_nil, or_false]
  exact ⟨h.2.1 x, fun hx => (h.2.2 x hx).resolve_right fun h2 => by rw [h1.2 x hx] at h2; cases h2⟩
theorem OkO.next {w O : List Bs} {b : Bs} (h : OkO w O) (hn : w.foldl (nxtF O) none = some b) : OkO w (O ++ [b]) ∧ b ∈ w ∧ b ∉ O := by
  have h1 := nxt_ok O w none (by simp)
  rw [hn] at h1
  simp only at h1
  obtain ⟨h1, h2, h3, _⟩ := h1
  have h2 := h2.resolve_left (by simp)
  have h4 := abv_all h.1 h1
  refine ⟨⟨List.pairwise_append.2 ⟨h.1, by simp, fun x hx y hy => by simp at hy; subst hy; exact cmpB_neg.2 (h4 x hx)⟩, fun x hx => ?_, fun x hx => ?_⟩, h2, fun hb => ?_⟩
  · rcases List.mem_append.1 hx with hx | hx
    · exact h.2.1 x hx
    · simp at hx; subst hx; exact h2
  · rw [abv_snoc]
    rcases h.2.2 x hx with h5 | h5
    · exact .inl (by simp [h5])
    · have h6 := h3 x hx h5
      rcases Classical.em (x = b) with rfl | hne
      · exact .inl (by simp)
      · cases h7 : ltB b x
        · exact absurd (ltB_total h6 h7) hne
        · exact .inr rfl
  · have := h4 b hb; rw [ltB_irrefl] at this; cases this
theorem nxtO_ms {w O : List Bs} {b : Bs} (h1 : b ∈ w) (h2 : b ∉ O) : (w.filter fun x => decide (x ∉ O ++ [b])).length < (w.filter fun x => decide (x ∉ O)).length := by
  have e : (w.filter fun x => decide (x ∉ O ++ [b])) = (w.filter fun x => decide (x ∉ O)).filter fun x => decide (x ≠ b) := by
    rw [List.filter_filter]
    congr 1
    funext x
    simp [and_comm]
  rw [e]
  have hb : b ∈ w.filter fun x => decide (x ∉ O) := by simp [h1, h2]
  generalize (w.filter fun x => decide (x ∉ O)) = l at hb
  exact List.length_filter_lt_length_iff_exists.2 ⟨b, hb, by simp⟩
theorem nd_le : ∀ {O w : List Bs}, O.Nodup → (∀ x ∈ O, x ∈ w) → O.length ≤ w.length
  | [], w, _, _ => by simp
  | x :: O, w, hn, h => by
    rw [List.nodup_cons] at hn
    have h1 := h x (by simp)
    have h2 := nd_le (O := O) (w := w.erase x) hn.2 fun y hy => (List.mem_erase_of_ne (by rintro rfl; exact hn.1 hy)).2 (h y (by simp [hy]))
    rw [List.length_erase_of_mem h1] at h2
    have := List.length_pos_of_mem h1
    simp only [List.length_cons]; omega
theorem OkO.len {w O : List Bs} (h : OkO w O) : O.length ≤ w.length := by
  have hn : O.Nodup := h.1.imp fun {a b} hab e => by subst e; rw [cmpB_self] at hab; omega
  exact nd_le hn h.2.1

theorem fok92 (w : List Bs) (hw : w.length ≤ 1000000) : FOk Tryz.prog 92 [.v (.word w)] [] (.v (.word (setL w))) [] := by
  refine FOk.val k92 (by simp) (by simp) (by decide) ?_
  simp [c92]
  refine Run.loopA (ι := List Bs) [(1, 3)] (fun O => OkO w O) (fun O => ⟨[(0, .v (.word w)), (3, .h 1)], [(1, ⟨false, 1, O.map fun s => .w (.string (bs s))⟩)], 1024⟩) (fun O => (w.filter fun x => decide (x ∉ O)).length) [] (by decide) (by simp) ⟨.nil, by simp, fun x _ => .inr rfl⟩ ?_
  rintro O hO ih
  have hOl := hO.len
  simp
  refine Run.loopA (ι := Nat × Option Bs) [(1, 3)] (fun q => q.1 ≤ w.length ∧ (w.drop q.1).foldl (nxtF O) q.2 = w.foldl (nxtF O) none) (fun q => ⟨[(0, .v (.word w)), (3, .h 1), (4, .S (q.2.getD [])), (5, .B q.2.isSome), (6, .I q.1)], [(1, ⟨false, 1, O.map fun s => .w (.string (bs s))⟩)], 1024⟩) (fun q => w.length - q.1) (0, none) (by decide) (by simp) ⟨by simp, by simp⟩ ?_
  rintro ⟨i, acc⟩ ⟨hi, hall⟩ ihi
  simp only at hi hall ihi ⊢
  by_cases h : i < w.length
  · rw [drop_at h, List.foldl_cons] at hall
    have hg : (w.map fun s => PV.w (.string (bs s)))[i]? = some (.w (.string (bs w[i]))) := by simp [List.getElem?_eq_getElem h]
    generalize w[i] = x at hg hall
    rcases List.eq_nil_or_concat O with hO0 | ⟨P, o, hO0⟩
    · subst hO0
      cases acc with
      | none =>
        have e : nxtF [] none x = some x := by simp [nxtF, abv, opLt]
        rw [e] at hall
        simp (disch := omega) [h, wrap_i64, hg]
        exact ihi (i + 1, some x) _ ⟨by simp; omega, hall⟩ (by simp; omega) (by simp)
      | some b =>
        simp (disch := omega) [h, wrap_i64, hg]
        refine ⟨fun hc => ?_, fun hc => ?_⟩
        · have e : nxtF [] (some b) x = some x := by simp [nxtF, abv, opLt, hc]
          rw [e] at hall
          exact ihi (i + 1, some x) _ ⟨by simp; omega, hall⟩ (by simp; omega) (by simp)
        · have e : nxtF [] (some b) x = some b := by simp [nxtF, abv, opLt, hc]
          rw [e] at hall
          exact ihi (i + 1, some b) _ ⟨by simp; omega, hall⟩ (by simp; omega) (by simp)
    · rw [List.concat_eq_append] at hO0
      subst hO0
      have hP : P.length ≤ 1000000 := by simp at hOl; omega
      have hP0 : ¬ ((P.length : Int) + 1 = 0) := by omega
      have hla : (P.map (fun s => PV.w (.string (bs s))) ++ [PV.w (.string (bs o))])[P.length]? = some (.w (.string (bs o))) := by simp
      have tri : (ltB o x = true ∧ ltB x o = false ∧ x ≠ o) ∨ (ltB o x = false ∧ ltB x o = true) ∨ (ltB o x = false ∧ ltB x o = false ∧ x = o) := by
        cases h1 : ltB o x
        · cases h2 : ltB x o
          · exact .inr (.inr ⟨rfl, rfl, ltB_total h2 h1⟩)
          · exact .inr (.inl ⟨rfl, rfl⟩)
        · exact .inl ⟨rfl, ltB_asymm h1, fun e => ltB_ne h1 e.symm⟩
      cases acc with
      | none =>
        rcases tri with ⟨hc, hd, hx⟩ | ⟨hc, hd⟩ | ⟨hc, hd, hx⟩
        · have e : nxtF (P ++ [o]) none x = some x := by simp [nxtF, abv, opLt, hc]
          rw [e] at hall
          simp (disch := omega) [h, wrap_i64, hg, hP0, hla, hd, hx]
          exact ihi (i + 1, some x) _ ⟨by simp; omega, hall⟩ (by simp; omega) (by simp)
        · have e : nxtF (P ++ [o]) none x = none := by simp [nxtF, abv, opLt, hc]
          rw [e] at hall
          simp (disch := omega) [h, wrap_i64, hg, hP0, hla, hd]
          exact ihi (i + 1, none) _ ⟨by simp; omega, hall⟩ (by simp; omega) (by simp)
        · subst hx
          have e : nxtF (P ++ [x]) none x = none := by simp [nxtF, abv, opLt, hc]
          rw [e] at hall
          simp (disch := omega) [h, wrap_i64, hg, hP0, hla, hd]
          exact ihi (i + 1, none) _ ⟨by simp; omega, hall⟩ (by simp; omega) (by simp)
      | some b =>
        rcases tri with ⟨hc, hd, hx⟩ | ⟨hc, hd⟩ | ⟨hc, hd, hx⟩
        · cases hb : ltB x b
          · have e : nxtF (P ++ [o]) (some b) x = some b := by simp [nxtF, abv, opLt, hc, hb]
            rw [e] at hall
            simp (disch := omega) [h, wrap_i64, hg, hP0, hla, hd, hx, hb]
            exact ihi (i + 1, some b) _ ⟨by simp; omega, hall⟩ (by simp; omega) (by simp)
          · have e : nxtF (P ++ [o]) (some b) x = some x := by simp [nxtF, abv, opLt, hc, hb]
            rw [e] at hall
            simp (disch := omega) [h, wrap_i64, hg, hP0, hla, hd, hx, hb]
            exact ihi (i + 1, some x) _ ⟨by simp; omega, hall⟩ (by simp; omega) (by simp)
        · have e : nxtF (P ++ [o]) (some b) x = some b := by simp [nxtF, abv, opLt, hc]
          rw [e] at hall
          simp (disch := omega) [h, wrap_i64, hg, hP0, hla, hd]
          exact ihi (i + 1, some b) _ ⟨by simp; omega, hall⟩ (by simp; omega) (by simp)
        · subst hx
          have e : nxtF (P ++ [x]) (some b) x = some b := by simp [nxtF, abv, opLt, hc]
          rw [e] at hall
          simp (disch := omega) [h, wrap_i64, hg, hP0, hla, hd]
          exact ihi (i + 1, some b) _ ⟨by simp; omega, hall⟩ (by simp; omega) (by simp)
  · rw [drop_no h] at hall
    simp only [List.foldl_nil] at hall
    cases acc with
    | none =>
      have h1 := hO.done hall.symm
      simp (disch := omega) [h]
      exact Ends.v rfl (by simp [h1])
    | some b =>
      obtain ⟨h1, h2, h3⟩ := hO.next hall.symm
      have hb : (O.length + 1 + 1000) * 16 ≤ 70368744177664 := by omega
      simp (disch := (clear hb; omega)) [h, hb]
      exact ih (O ++ [b]) _ h1 (nxtO_ms h2 h3) (by simp)

end Go.Proofs

/- syms.Raw: the raw text of a word, for every list. -/
import Derived.Test.YtlncfkgodioocaaX24
namespace Go.Proofs.Ytlncfkgodioocaa.P
open Go.RowKit Go.Proofs.YtlncfkgodioocaaW.PrintWords Go.Proofs.YtlncfkgodioocaaW.PrintLast Go.Proofs.YtlncfkgodioocaaW.PrintMore
set_option linter.unusedVariables false

def joined (l : List ByteArray) : List UInt8 := l.flatMap fun s => s.toList
theorem joined_le (l : List ByteArray) (h : l.any isLong = false) : (joined l).length ≤ 16 * l.length := by
  induction l with
  | nil => simp [joined]
  | cons x l ih =>
    simp only [List.any_cons, Bool.or_eq_false_iff] at h
    have h1 : x.size ≤ 16 := by have := h.1; simp [isLong] at this; omega
    have h2 := ih h.2
    simp only [joined, List.flatMap_cons, List.length_append, List.length_cons, sz_toList] at *
    omega
theorem join_nil (l : List ByteArray) : Lib.join (l.map (·.data.toList)) [] = joined l := by
  unfold joined
  induction l with
  | nil => rfl
  | cons x l ih =>
    cases l with
    | nil => simp [Lib.join, Lib.toList_data]
    | cons y l =>
      simp only [Lib.join, List.intercalate, List.map_cons, List.intersperse, List.flatten_cons, List.nil_append, List.flatMap_cons] at ih ⊢
      rw [ih, Lib.toList_data x]

def syms_Raw.f (l : List ByteArray) : Option (ByteArray × Int) := if vWord l = 0 then some (⟨(joined l).toArray⟩, 0) else some (⟨#[]⟩, vWord l)

theorem vWord_ok {l : List ByteArray} (hv : vWord l = 0) : l.length ≤ 60 ∧ l.any isLong = false ∧ l.all isSym = true := by
  unfold vWord at hv
  by_cases h : 60 < l.length
  · simp [h] at hv
  · rw [if_neg h] at hv
    cases hL : l.any isLong with
    | true => rw [hL] at hv; simp at hv
    | false =>
      rw [hL] at hv
      cases hA : l.all isSym with
      | false => rw [hA] at hv; simp at hv
      | true => exact ⟨by omega, rfl, rfl⟩

theorem join_any (A : Option Addr) (c : Nat) (l : List ByteArray) (w : World) (hr : Kd.C Kd.string w A l.length l) (hc : l.length ≤ c) (hlen : (joined l).length ≤ 140737488355328) (hn : l.length ≤ 140737488355328) :
    Calls Try.prog 59 #[.slice A l.length c, .string ⟨#[]⟩] w fun e w' => e = .returned (.string ⟨(joined l).toArray⟩) ∧ Below w.heap.size w w' := by
  rcases Nat.eq_zero_or_pos l.length with h0 | h0
  · have : l = [] := List.eq_nil_of_length_eq_zero h0
    subst this
    refine (Try.strings_Join_none A c ⟨#[]⟩ w).mono ?_
    rintro e w' ⟨he, rfl⟩
    exact ⟨he, Below.refl _ _⟩
  · obtain ⟨b, o, rfl, hb, hcells⟩ := mw_strCells hr h0
    have := Try.strings_Join b o c l ⟨#[]⟩ w hcells hb hn hc (by rw [show (⟨#[]⟩ : ByteArray).data.toList = [] from rfl, join_nil]; exact hlen)
    rwa [show (⟨#[]⟩ : ByteArray).data.toList = [] from rfl, join_nil] at this

set_option maxHeartbeats 1000000 in
theorem syms_Raw.calls (A0 : Option Addr) (c0 : Nat) (l0 : List ByteArray) (r1 : ByteArray) (r2 : Int) (w : World) (hr0 : Kd.C Kd.string w A0 l0.length l0) (hc0 : l0.length ≤ c0) (h : syms_Raw.f l0 = some (r1, r2)) :
    Calls Try.prog 26 #[.slice A0 l0.length c0] w fun e w' => e = .returned (.tuple #[.string r1, .int .i64 r2]) ∧ Below w.heap.size w w' := by
  obtain ⟨k, hk⟩ := (syms_ValidateWord_ev l0).rounds
  unfold syms_Raw.f at h
  by_cases hv : vWord l0 = 0
  · rw [if_pos hv] at h
    obtain ⟨rfl, rfl⟩ := Prod.mk.inj (Option.some.inj h)
    obtain ⟨h60, hl, _⟩ := vWord_ok hv
    have hj := joined_le l0 hl
    rw [hv] at hk
    have HV := Aside0.mk (syms_ValidateWord.calls k A0 c0 l0 0 w hr0 hc0 hk)
    have HJ := Aside0.mk (fun n => join_any A0 c0 l0 (w.drewN n) (Kd.C_drewN hr0 n) hc0 (by omega) (by omega))
    clear hk hv hr0 h hl hj
    generalize joined l0 = y at *
    go_enter Try.func26, Try.ntmps26
    go_wp2_with fail
    refine HV.out.mono ?_
    rintro e w' ⟨rfl, ⟨n, rfl⟩⟩
    go_wp2_with fail
    refine (HJ.out n).mono ?_
    rintro e w' ⟨rfl, hb⟩
    go_wp2
    go_ret2
    exact ⟨rfl, (pw_below_drewN (Below.refl _ _) n).trans hb⟩
  · rw [if_neg hv] at h
    obtain ⟨rfl, rfl⟩ := Prod.mk.inj (Option.some.inj h)
    have HV := Aside0.mk (syms_ValidateWord.calls k A0 c0 l0 _ w hr0 hc0 hk)
    clear hk hr0 h
    generalize vWord l0 = r at *
    have hne2 : (r == 0) = false := beq_eq_false_iff_ne.2 hv
    have hne3 : (r != 0) = true := by rw [bne_iff_ne]; exact hv
    clear hv
    go_enter Try.func26, Try.ntmps26
    go_wp2_with fail
    refine HV.out.mono ?_
    rintro e w' ⟨rfl, ⟨n, rfl⟩⟩
    go_wp2
    go_ret2
    exact ⟨rfl, pw_below_drewN (Below.refl _ _) n⟩

end Go.Proofs.Ytlncfkgodioocaa.P

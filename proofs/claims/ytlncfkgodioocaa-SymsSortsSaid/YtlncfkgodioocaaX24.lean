/- syms.Text: the text of a word, for every list. -/
import Derived.Test.YtlncfkgodioocaaX55
import Derived.Test.YtlncfkgodioocaaS2
namespace Go.Proofs.Ytlncfkgodioocaa.P
open Go.RowKit Go.Proofs.YtlncfkgodioocaaW.PrintWords Go.Proofs.YtlncfkgodioocaaW.PrintLast Go.Proofs.YtlncfkgodioocaaW.PrintMore
set_option linter.unusedVariables false

/-- One symbol as it is written. -/
def wr1 (s : ByteArray) : List UInt8 := if s.size = 1 then s.toList else 60 :: (s.toList ++ [62])
def written (l : List ByteArray) : List UInt8 := l.flatMap wr1
theorem wr1_le (s : ByteArray) (h : isLong s = false) : (wr1 s).length ≤ 18 := by
  have h16 : ¬ (16 < (s.size : Int)) := by simpa [isLong] using h
  unfold wr1
  split
  · rw [sz_toList]; omega
  · simp [sz_toList]; omega
theorem written_le (l : List ByteArray) (h : l.any isLong = false) : (written l).length ≤ 18 * l.length := by
  induction l with
  | nil => simp [written]
  | cons x l ih =>
    simp only [List.any_cons, Bool.or_eq_false_iff] at h
    have h1 := wr1_le x h.1
    have h2 := ih h.2
    simp only [written, List.flatMap_cons, List.length_append, List.length_cons] at *
    omega
theorem written_snoc (l : List ByteArray) {k : Nat} (h : k < l.length) : written (l.take (k + 1)) = written (l.take k) ++ wr1 l[k] := by
  unfold written
  rw [List.take_succ_eq_append_getElem h, List.flatMap_append, List.flatMap_singleton]

/-- syms.Text: an error code beside an empty text, or the text. -/
def syms_Text.f (l : List ByteArray) : Option (ByteArray × Int) :=
  if vWord l = 0 then (if 400 < (written l).length then some (⟨#[]⟩, 3) else some (⟨(written l).toArray⟩, 0)) else some (⟨#[]⟩, vWord l)

theorem byteCells_append (a b : List UInt8) : Lib.byteCells (a ++ b) = Lib.byteCells a ++ Lib.byteCells b := by simp [Lib.byteCells]
theorem strCells_eq (s : ByteArray) : Lib.strCells s = Lib.byteCells s.toList := by rw [Lib.toList_data]; rfl

theorem Drawn0.below' {w w' : World} (h : Drawn0 w w') : Below w.heap.size w w' := h.below

set_option maxHeartbeats 2000000 in
set_option maxRecDepth 100000 in
theorem syms_Text.ok (A0 : Option Addr) (c0 : Nat) (l0 : List ByteArray) (w : World) (hr0 : Kd.C Kd.string w A0 l0.length l0) (hc0 : l0.length ≤ c0) (r1 : ByteArray) (r2 : Int) (hv : vWord l0 = 0) (hr : (if 400 < (written l0).length then ((⟨#[]⟩, 3) : ByteArray × Int) else (⟨(written l0).toArray⟩, 0)) = (r1, r2)) :
    Calls Try.prog 24 #[.slice A0 l0.length c0] w fun e w' => e = .returned (.tuple #[.string r1, .int .i64 r2]) ∧ Below w.heap.size w w' := by
  have HE := Aside0.mk hr
  clear hr
  obtain ⟨k, hk⟩ := (syms_ValidateWord_ev l0).rounds
  have h60 : l0.length ≤ 60 := by
    unfold vWord at hv
    by_cases h : 60 < l0.length
    · simp [h] at hv
    · omega
  have hlong : l0.any isLong = false := by
    unfold vWord at hv
    cases hL : l0.any isLong with
    | false => rfl
    | true => rw [if_neg (by omega), hL] at hv; simp at hv
  rw [hv] at hk
  have HV := Aside0.mk (syms_ValidateWord.calls k A0 c0 l0 0 w hr0 hc0 hk)
  clear hk hv
  have HR := Aside0.mk hr0
  clear hr0
  have HL := Aside0.mk hlong
  have HW := Aside0.mk (written_le l0 hlong)
  clear hlong
  go_enter Try.func24, Try.ntmps24
  go_wp2_with fail
  refine HV.out.mono ?_
  rintro e w' ⟨rfl, ⟨n, rfl⟩⟩
  go_wp2
  go_loopg [15] l0.length (fun gg s15 wr => ∃ kk : Nat, kk ≤ l0.length ∧ l0.length - kk ≤ gg ∧ s15 = .int .i64 kk ∧ Aside0 (Below w.heap.size w wr) ∧ Aside0 (Lib.IsBuilder 56 5 w.heap.size w.heap.size (Lib.byteCells (written (l0.take kk))) wr))
  case atStart =>
    exact ⟨0, Nat.zero_le _, by omega, rfl, ⟨(pw_below_drewN (Below.refl _ _) n).alloc (Nat.le_refl _) _⟩, ⟨by have := Lib.fresh_isBuilder 56 5 (w.drewN n); simpa [written, Lib.byteCells] using this⟩⟩
  case round =>
    obtain ⟨kk, hkk, hg, rfl, HBe, HBd⟩ := hrel
    by_cases hlt : kk < l0.length
    · obtain ⟨ad, e, hx⟩ := Kd.at_string (Kd.C_below HR.out HBe.out) (kk : Int) (by omega) (by omega)
      cases e
      simp only [Int.toNat_natCast] at hx
      have hle := written_le (l0.take kk) (by
        have := HL.out
        rw [List.any_eq_false] at this ⊢
        exact fun x hx => this x (List.mem_of_mem_take hx))
      have hln : isLong l0[kk] = false := by
        have := List.any_eq_false.1 HL.out l0[kk] (List.getElem_mem hlt)
        simpa using this
      have hsz : l0[kk].size ≤ 16 := by simp [isLong] at hln; omega
      have HS := Aside0.mk (written_snoc l0 hlt)
      rw [List.length_take] at hle
      have hb := HBd.out
      have hgrow := HBe.out.size
      have HW1 := Aside0.mk (fun (s : ByteArray) (hs : s.size ≤ 100) => writeString_any w.heap.size w.heap.size _ s wr hb (by rw [Lib.byteCells_length]; omega) hgrow)
      have hlti : (kk : Int) < (l0.length : Int) := by omega
      rw [rdOf_nat _ _ hlt] at hx
      clear hb hle HBd
      by_cases h1 : l0[kk].size = 1
      · have h1b : ((l0[kk].size : Int) == 1) = true := by rw [h1]; rfl
        have hE : written (l0.take (kk + 1)) = written (l0.take kk) ++ l0[kk].toList := by rw [HS.out]; simp [wr1, h1]
        have hc := HW1.out l0[kk] (by omega)
        rw [strCells_eq, ← byteCells_append, ← hE] at hc
        have HC := Aside0.mk hc
        clear hc hE HS HW1
        have H1 := Aside0.mk h1
        clear h1
        generalize hy : l0[kk] = y at *
        clear hy
        go_wp2_with (go_at_call 55; refine HC.out.mono ?_; rintro e w2 ⟨rfl, hA, hB2⟩)
        go_roundg (l0.length - (kk + 1))
        case measure => omega
        case rel => exact ⟨kk + 1, by omega, by omega, by go_num, ⟨HBe.out.trans hB2⟩, ⟨.inr hA⟩⟩
      · have h1b : ((l0[kk].size : Int) == 1) = false := beq_eq_false_iff_ne.2 (by omega)
        have hE : written (l0.take (kk + 1)) = written (l0.take kk) ++ ((⟨#[60]⟩ : ByteArray) ++ l0[kk] ++ (⟨#[62]⟩ : ByteArray)).toList := by
          rw [HS.out, wr1, if_neg h1]
          simp [Lib.toList_data, ByteArray.data_append]
        have hsz2 : ((⟨#[60]⟩ : ByteArray) ++ l0[kk] ++ (⟨#[62]⟩ : ByteArray)).size ≤ 100 := by
          simp only [ByteArray.size_append, mw_size_mk]
          simp; omega
        have hc := HW1.out _ hsz2
        rw [strCells_eq, ← byteCells_append, ← hE] at hc
        have HC := Aside0.mk hc
        clear hc hE HS HW1 hsz2
        have H1 := Aside0.mk h1
        clear h1
        generalize hy : l0[kk] = y at *
        clear hy
        have hcat1 : (9223372036854775807 < 1 + y.size) = False := eq_false (by omega)
        have hcat2 : (9223372036854775807 < 1 + y.size + 1) = False := eq_false (by omega)
        go_wp2_with (go_at_call 55; refine HC.out.mono ?_; rintro e w2 ⟨rfl, hA, hB2⟩)
        go_roundg (l0.length - (kk + 1))
        case measure => omega
        case rel => exact ⟨kk + 1, by omega, by omega, by go_num, ⟨HBe.out.trans hB2⟩, ⟨.inr hA⟩⟩
    · have : kk = l0.length := by omega
      subst this
      have hltz : ¬ (l0.length : Int) < (l0.length : Int) := by omega
      have hb := HBd.out
      rw [List.take_length] at hb
      have hlen := Try.Builder_Len w.heap.size _ _ wr hb
      rw [Lib.byteCells_length] at hlen
      have HLen := Aside0.mk hlen
      have HStr := Aside0.mk (Try.Builder_String_any w.heap.size _ _ wr hb HBe.out.size)
      clear hb HBd hlen
      have HWL := HW.out
      by_cases h400 : 400 < (written l0).length
      · have hi : 400 < ((written l0).length : Int) := by omega
        have he := HE.out
        rw [if_pos h400] at he
        have HE2 := Aside0.mk he
        clear he HE
        generalize hy : written l0 = y at *
        clear hy
        go_wp2_with (go_at_call 56; refine HLen.out.mono ?_; rintro e w2 ⟨rfl, rfl⟩)
        go_ret2
        obtain ⟨rfl, rfl⟩ := Prod.mk.inj HE2.out
        exact ⟨rfl, HBe.out⟩
      · have hi : ¬ 400 < ((written l0).length : Int) := by omega
        have he := HE.out
        rw [if_neg h400] at he
        have HE2 := Aside0.mk he
        clear he HE
        generalize hy : written l0 = y at *
        clear hy
        go_wp2_with (first | (go_at_call 56; refine HLen.out.mono ?_; rintro e w2 ⟨rfl, rfl⟩) | (go_at_call 57; refine HStr.out.mono ?_; rintro e w2 ⟨rfl, hB2⟩))
        go_ret2
        obtain ⟨rfl, rfl⟩ := Prod.mk.inj HE2.out
        exact ⟨rfl, HBe.out.trans (hB2.mono (Nat.le_refl _))⟩

set_option maxHeartbeats 1000000 in
theorem syms_Text.no (A0 : Option Addr) (c0 : Nat) (l0 : List ByteArray) (w : World) (hr0 : Kd.C Kd.string w A0 l0.length l0) (hc0 : l0.length ≤ c0) (r : Int) (hv : vWord l0 = r) (hne : ¬ r = 0) :
    Calls Try.prog 24 #[.slice A0 l0.length c0] w fun e w' => e = .returned (.tuple #[.string ⟨#[]⟩, .int .i64 r]) ∧ Below w.heap.size w w' := by
  obtain ⟨k, hk⟩ := (syms_ValidateWord_ev l0).rounds
  rw [hv] at hk
  have HV := Aside0.mk (syms_ValidateWord.calls k A0 c0 l0 r w hr0 hc0 hk)
  clear hk hv hr0
  have hne2 : (r == 0) = false := beq_eq_false_iff_ne.2 hne
  have hne3 : (r != 0) = true := by rw [bne_iff_ne]; exact hne
  clear hne
  go_enter Try.func24, Try.ntmps24
  go_wp2_with fail
  refine HV.out.mono ?_
  rintro e w' ⟨rfl, ⟨n, rfl⟩⟩
  go_wp2
  go_ret2
  exact ⟨rfl, pw_below_drewN (Below.refl _ _) n⟩

theorem syms_Text.calls (A0 : Option Addr) (c0 : Nat) (l0 : List ByteArray) (r1 : ByteArray) (r2 : Int) (w : World) (hr0 : Kd.C Kd.string w A0 l0.length l0) (hc0 : l0.length ≤ c0) (h : syms_Text.f l0 = some (r1, r2)) :
    Calls Try.prog 24 #[.slice A0 l0.length c0] w fun e w' => e = .returned (.tuple #[.string r1, .int .i64 r2]) ∧ Below w.heap.size w w' := by
  unfold syms_Text.f at h
  by_cases hv : vWord l0 = 0
  · rw [if_pos hv] at h
    refine syms_Text.ok A0 c0 l0 w hr0 hc0 r1 r2 hv ?_
    by_cases h4 : 400 < (written l0).length
    · rw [if_pos h4] at h ⊢; exact Option.some.inj h
    · rw [if_neg h4] at h ⊢; exact Option.some.inj h
  · rw [if_neg hv] at h
    obtain ⟨rfl, rfl⟩ := Prod.mk.inj (Option.some.inj h)
    exact syms_Text.no A0 c0 l0 w hr0 hc0 _ rfl hv

end Go.Proofs.Ytlncfkgodioocaa.P

/- The text and the raw text of a word: what the reference's functions come to; texts are read as what they were. -/
import Derived.Test.YtlncfkgodioocaaS5
import Derived.Test.YtlncfkgodioocaaX26
import Derived.Test.YtlncfkgodioocaaQ0b
import Derived.Test.YtlncfkgodioocaaQ0b
namespace Go.Proofs.Ytlncfkgodioocaa.P
open Go.RowKit Go.Proofs.YtlncfkgodioocaaW.PrintWords

theorem mk_append (a : List UInt8) (s : ByteArray) : (⟨a.toArray⟩ : ByteArray) ++ s = ⟨(a ++ s.toList).toArray⟩ := by
  apply toList_inj
  rw [toList_mk, Lib.toList_data, Lib.toList_data]
  simp [ByteArray.data_append]
theorem mk_size (a : List UInt8) : (⟨a.toArray⟩ : ByteArray).size = a.length := by rw [← sz_toList, toList_mk]
theorem joined_snoc (l : List ByteArray) {k : Nat} (h : k < l.length) : joined (l.take (k + 1)) = joined (l.take k) ++ l[k].toList := by
  unfold joined
  rw [List.take_succ_eq_append_getElem h, List.flatMap_append, List.flatMap_singleton]
theorem any_take (l : List ByteArray) (k : Nat) (h : l.any isLong = false) : (l.take k).any isLong = false := by
  rw [List.any_eq_false] at h ⊢
  exact fun x hx => h x (List.mem_of_mem_take hx)

theorem Written_l (l : List ByteArray) (h60 : l.length ≤ 60) (hl : l.any isLong = false) : ∀ (d j : Nat), l.length = j + d → Ev (fun k => ablautref01_Written.l0 k l ⟨(written (l.take j)).toArray⟩ (j : Int)) ⟨(written l).toArray⟩ := by
  intro d
  induction d with
  | zero =>
    intro j hj
    refine Ev.step (fun k => ablautref01_Written.l0.eq_2 _ _ _ _) ?_
    simp only [if_neg (show ¬ ((j : Int) < (l.length : Int)) by omega)]
    rw [List.take_of_length_le (by omega)]
    exact Ev.now _
  | succ d ih =>
    intro j hj
    have hj' : j < l.length := by omega
    have hsz := short_of l hl l[j] (List.getElem_mem hj')
    have hwl := written_le (l.take j) (any_take l j hl)
    rw [List.length_take] at hwl
    have hws := written_snoc l hj'
    have hw : wrap64 ((j : Int) + 1) = ((j + 1 : Nat) : Int) := wrap_of (by omega) (by omega)
    refine Ev.step (fun k => ablautref01_Written.l0.eq_2 _ _ _ _) ?_
    rw [rdOf_nat _ _ hj', hw]
    clear hw
    have ih' := ih (j + 1) (by omega)
    simp only [show ((j : Int) < (l.length : Int)) from by omega, show (0 : Int) ≤ (j : Int) from by omega, if_true]
    by_cases h1 : l[j].size = 1
    · simp only [show ((l[j].size : Int) = 1) from by omega, mk_size, show (written (l.take j)).length + l[j].size ≤ 9223372036854775807 from by omega, if_true]
      rw [mk_append]
      rw [hws, wr1, if_pos h1] at ih'
      exact ih'
    · have hcs : ((⟨#[60]⟩ : ByteArray) ++ l[j] ++ (⟨#[62]⟩ : ByteArray)).size = 1 + l[j].size + 1 := by simp only [ByteArray.size_append, mw_size_mk]; simp
      have hcs1 : ((⟨#[60]⟩ : ByteArray) ++ l[j]).size = 1 + l[j].size := by simp only [ByteArray.size_append, mw_size_mk]; simp
      have hct : ((⟨#[60]⟩ : ByteArray) ++ l[j] ++ (⟨#[62]⟩ : ByteArray)).toList = 60 :: (l[j].toList ++ [62]) := by simp [Lib.toList_data, ByteArray.data_append]
      simp only [show ¬ ((l[j].size : Int) = 1) from by omega, hcs, hcs1, mk_size, show 1 + l[j].size ≤ 9223372036854775807 from by omega, show 1 + l[j].size + 1 ≤ 9223372036854775807 from by omega, show (written (l.take j)).length + (1 + l[j].size + 1) ≤ 9223372036854775807 from by omega, if_true, if_false]
      rw [mk_append, hct]
      rw [hws, wr1, if_neg h1] at ih'
      exact ih'
theorem Joined_l (l : List ByteArray) (h60 : l.length ≤ 60) (hl : l.any isLong = false) : ∀ (d j : Nat), l.length = j + d → Ev (fun k => ablautref01_Joined.l0 k l ⟨(joined (l.take j)).toArray⟩ (j : Int)) ⟨(joined l).toArray⟩ := by
  intro d
  induction d with
  | zero =>
    intro j hj
    refine Ev.step (fun k => ablautref01_Joined.l0.eq_2 _ _ _ _) ?_
    simp only [if_neg (show ¬ ((j : Int) < (l.length : Int)) by omega)]
    rw [List.take_of_length_le (by omega)]
    exact Ev.now _
  | succ d ih =>
    intro j hj
    have hj' : j < l.length := by omega
    have hsz := short_of l hl l[j] (List.getElem_mem hj')
    have hwl := joined_le (l.take j) (any_take l j hl)
    rw [List.length_take] at hwl
    have hws := joined_snoc l hj'
    have hw : wrap64 ((j : Int) + 1) = ((j + 1 : Nat) : Int) := wrap_of (by omega) (by omega)
    refine Ev.step (fun k => ablautref01_Joined.l0.eq_2 _ _ _ _) ?_
    rw [rdOf_nat _ _ hj', hw]
    clear hw
    have ih' := ih (j + 1) (by omega)
    simp only [show ((j : Int) < (l.length : Int)) from by omega, show (0 : Int) ≤ (j : Int) from by omega, if_true, mk_size, show (joined (l.take j)).length + l[j].size ≤ 9223372036854775807 from by omega]
    rw [mk_append]
    rw [hws] at ih'
    exact ih'

def textW (l : List ByteArray) : ByteArray × Int := if vWord l = 0 then (if 400 < (written l).length then (⟨#[]⟩, 3) else (⟨(written l).toArray⟩, 0)) else (⟨#[]⟩, vWord l)
def rawW (l : List ByteArray) : ByteArray × Int := if vWord l = 0 then (⟨(joined l).toArray⟩, 0) else (⟨#[]⟩, vWord l)
theorem syms_Text_eq (l : List ByteArray) : syms_Text.f l = some (textW l) := by
  unfold syms_Text.f textW
  split
  · split <;> rfl
  · rfl
theorem syms_Raw_eq (l : List ByteArray) : syms_Raw.f l = some (rawW l) := by
  unfold syms_Raw.f rawW
  split <;> rfl
theorem ref_Text_ev (l : List ByteArray) (hlen : l.length ≤ 9223372036854775807) : Ev (fun k => ablautref01_Text.f k l) (textW l) := by
  unfold ablautref01_Text.f textW
  refine Ev.bind (ref_ValidateWord_ev l hlen) ?_
  by_cases hv : vWord l = 0
  · simp only [hv, if_true]
    obtain ⟨h60, hl, _⟩ := vWord_ok hv
    have h0 : Ev (fun k => ablautref01_Written.f k l) ⟨(written l).toArray⟩ := by
      have := Written_l l h60 hl l.length 0 (by omega)
      simpa [ablautref01_Written.f, written] using this
    refine Ev.bind h0 ?_
    rw [mk_size]
    by_cases h4 : 400 < (written l).length
    · simp only [h4, show ((written l).length : Int) > 400 from by omega, if_true]; exact Ev.now _
    · simp only [h4, show ¬ (((written l).length : Int) > 400) from by omega, if_false]; exact Ev.now _
  · simp only [hv, if_false]; exact Ev.now _
theorem ref_Raw_ev (l : List ByteArray) (hlen : l.length ≤ 9223372036854775807) : Ev (fun k => ablautref01_Raw.f k l) (rawW l) := by
  unfold ablautref01_Raw.f rawW
  refine Ev.bind (ref_ValidateWord_ev l hlen) ?_
  by_cases hv : vWord l = 0
  · simp only [hv, if_true]
    obtain ⟨h60, hl, _⟩ := vWord_ok hv
    have h0 : Ev (fun k => ablautref01_Joined.f k l) ⟨(joined l).toArray⟩ := by
      have := Joined_l l h60 hl l.length 0 (by omega)
      simpa [ablautref01_Joined.f, joined] using this
    exact Ev.bind h0 (Ev.now _)
  · simp only [hv, if_false]; exact Ev.now _

/-! ### there and back -/
theorem body_sym : ∀ (a r : List UInt8), a.all okB = true → body (a ++ 62 :: r) = a
  | [], r, _ => by simp [body]
  | x :: a, r, h => by
    simp only [List.all_cons, Bool.and_eq_true] at h
    have hx : x ≠ 62 := fun e => by rw [okB_angle (.inr e)] at h; exact absurd h.1 (by simp)
    have ih := body_sym a r h.2
    unfold body at ih ⊢
    rw [List.cons_append, List.takeWhile_cons, if_pos (bne_iff_ne.2 hx), ih]
theorem isSym_parts {x : ByteArray} (h : isSym x = true) : x.toList.all okB = true ∧ x.toList ≠ [] := by
  unfold isSym at h
  rw [Bool.and_eq_true] at h
  refine ⟨h.1, fun e => ?_⟩
  rw [e] at h
  simp at h
theorem mk_toList (x : ByteArray) : (⟨x.toList.toArray⟩ : ByteArray) = x := toList_inj (toList_mk _)

theorem readL_written : ∀ (l : List ByteArray) (n : Nat), (∀ x ∈ l, isSym x = true ∧ x.size ≤ 16) → (written l).length ≤ n → readL n (written l) = some l
  | [], n, _, _ => by cases n <;> rfl
  | x :: l, n, h, hn => by
    obtain ⟨hx, h16⟩ := h x (by simp)
    obtain ⟨hok, hne⟩ := isSym_parts hx
    have hsz := sz_toList x
    have e : written (x :: l) = wr1 x ++ written l := by simp [written]
    rw [e] at hn ⊢
    have hl : ∀ m, (written l).length ≤ m → readL m (written l) = some l := fun m hm => readL_written l m (fun y hy => h y (by simp [hy])) hm
    unfold wr1 at hn ⊢
    by_cases h1 : x.size = 1
    · rw [if_pos h1] at hn ⊢
      obtain ⟨c, hc⟩ : ∃ c, x.toList = [c] := List.length_eq_one_iff.1 (by omega)
      rw [hc] at hok hn ⊢
      obtain ⟨m, rfl⟩ : ∃ m, n = m + 1 := ⟨n - 1, by simp at hn; omega⟩
      simp only [List.all_cons, List.all_nil, Bool.and_true] at hok
      have hc60 : c ≠ 60 := fun e => by rw [okB_angle (.inl e)] at hok; cases hok
      simp only [List.cons_append, List.nil_append, List.length_cons] at hn ⊢
      rw [readL, if_neg hc60, if_pos hok, hl m (by omega)]
      simp only [Option.map_some, Option.some.injEq, List.cons.injEq, and_true]
      rw [← mk_toList x, hc]
    · rw [if_neg h1] at hn ⊢
      obtain ⟨m, rfl⟩ : ∃ m, n = m + 1 := ⟨n - 1, by simp at hn; omega⟩
      simp only [List.cons_append, List.append_assoc, List.nil_append, List.length_cons, List.length_append] at hn ⊢
      have hpos : 0 < x.toList.length := List.length_pos_iff.2 hne
      rw [readL, if_pos rfl, body_sym x.toList (written l) hok]
      rw [if_neg (by simp), if_neg (by omega), if_neg (by omega), if_pos hok]
      have hd : (x.toList ++ 62 :: written l).drop (x.toList.length + 1) = written l := by
        simp
      rw [hd, hl m (by omega)]
      simp only [Option.map_some, mk_toList]

theorem written_readL : ∀ (n : Nat) (l : List UInt8) (w : List ByteArray), readL n l = some w → l.length ≤ n → written w = l ∧ ∀ x ∈ w, isSym x = true ∧ x.size ≤ 16
  | 0, l, w, h, hn => by
    rw [readL] at h
    cases h
    have : l = [] := List.eq_nil_of_length_eq_zero (by omega)
    rw [this]
    exact ⟨rfl, by simp⟩
  | n + 1, [], w, h, _ => by
    rw [readL] at h
    cases h
    exact ⟨rfl, by simp⟩
  | n + 1, c :: t, w, h, hn => by
    rw [readL] at h
    simp only [List.length_cons] at hn
    by_cases hc : c = 60
    · rw [if_pos hc] at h
      have hbt := body_take t
      have hble := body_le t
      have hat := body_at t
      generalize body t = B at *
      by_cases h1 : B.length = t.length
      · rw [if_pos h1] at h; cases h
      rw [if_neg h1] at h
      by_cases h2 : B.length < 2
      · rw [if_pos h2] at h; cases h
      rw [if_neg h2] at h
      by_cases h3 : 16 < B.length
      · rw [if_pos h3] at h; cases h
      rw [if_neg h3] at h
      cases hok : B.all okB with
      | false => rw [hok] at h; simp at h
      | true =>
        rw [hok, if_pos rfl] at h
        obtain ⟨v, hv, rfl⟩ := Option.map_eq_some_iff.1 h
        obtain ⟨i1, i2⟩ := written_readL n _ v hv (by rw [List.length_drop]; omega)
        have hB : (⟨B.toArray⟩ : ByteArray).size = B.length := mk_size B
        refine ⟨?_, fun x hx => ?_⟩
        · have e : written (⟨B.toArray⟩ :: v) = wr1 ⟨B.toArray⟩ ++ written v := by simp [written]
          rw [e, i1, wr1, if_neg (by omega), toList_mk, hc]
          have ht : t = B ++ 62 :: t.drop (B.length + 1) := by
            have h62 := hat (by omega)
            have e2 := List.take_append_drop B.length t
            rw [hbt, List.drop_eq_getElem_cons (show B.length < t.length by omega), h62] at e2
            exact e2.symm
          conv => rhs; rw [ht]
          simp
        · rcases List.mem_cons.1 hx with rfl | hx
          · refine ⟨?_, by omega⟩
            rw [isSym, toList_mk, hok]
            cases B with
            | nil => simp at h2
            | cons => rfl
          · exact i2 x hx
    · rw [if_neg hc] at h
      cases hok : okB c with
      | false => rw [hok] at h; simp at h
      | true =>
        rw [hok, if_pos rfl] at h
        obtain ⟨v, hv, rfl⟩ := Option.map_eq_some_iff.1 h
        obtain ⟨i1, i2⟩ := written_readL n _ v hv (by omega)
        have hB : (⟨[c].toArray⟩ : ByteArray).size = 1 := mk_size [c]
        refine ⟨?_, fun x hx => ?_⟩
        · have e : written (⟨[c].toArray⟩ :: v) = wr1 ⟨[c].toArray⟩ ++ written v := by simp [written]
          rw [e, i1, wr1, if_pos hB, toList_mk]
          rfl
        · rcases List.mem_cons.1 hx with rfl | hx
          · exact ⟨by rw [isSym_one, hok], by omega⟩
          · exact i2 x hx

theorem vWord_zero {l : List ByteArray} (h60 : l.length ≤ 60) (h : ∀ x ∈ l, isSym x = true ∧ x.size ≤ 16) : vWord l = 0 := by
  have hl : l.any isLong = false := List.any_eq_false.2 (fun x hx => by have := (h x hx).2; simp [isLong]; omega)
  have ha : l.all isSym = true := List.all_eq_true.2 (fun x hx => (h x hx).1)
  unfold vWord
  rw [if_neg (by omega), hl, ha]
  simp
theorem vWord_each {l : List ByteArray} (h : vWord l = 0) : ∀ x ∈ l, isSym x = true ∧ x.size ≤ 16 := by
  obtain ⟨_, hl, ha⟩ := vWord_ok h
  exact fun x hx => ⟨List.all_eq_true.1 ha x hx, short_of l hl x hx⟩

/-- What has a text is read of it. -/
theorem read_text {l : List ByteArray} (h : (textW l).2 = 0) : readW (textW l).1 = (l, 0) := by
  unfold textW at h ⊢
  by_cases hv : vWord l = 0
  · rw [if_pos hv] at h ⊢
    by_cases h4 : 400 < (written l).length
    · rw [if_pos h4] at h; simp at h
    · rw [if_neg h4]
      obtain ⟨h60, _, _⟩ := vWord_ok hv
      unfold readW
      simp only [mk_size, toList_mk]
      rw [if_neg h4, readL_written l _ (vWord_each hv) (Nat.le_refl _), readR, List.nil_append, if_neg (by omega)]
  · rw [if_neg hv] at h; exact absurd h hv
/-- What is read has the text that it was read of. -/
theorem text_read {s : ByteArray} (h : (readW s).2 = 0) : textW (readW s).1 = (s, 0) := by
  unfold readW at h ⊢
  by_cases h4 : 400 < s.size
  · rw [if_pos h4] at h; simp at h
  · rw [if_neg h4] at h ⊢
    cases hr : readL s.size s.toList with
    | none => rw [hr] at h; simp [readR] at h
    | some w =>
      rw [hr] at h
      simp only [readR, List.nil_append] at h ⊢
      by_cases h6 : 60 < w.length
      · rw [if_pos h6] at h; simp at h
      · rw [if_neg h6]
        obtain ⟨e, he⟩ := written_readL _ _ _ hr (by rw [sz_toList]; omega)
        simp only [textW]
        rw [if_pos (vWord_zero (by omega) he), e, sz_toList, if_neg h4, mk_toList]

end Go.Proofs.Ytlncfkgodioocaa.P

/- slices.IndexFunc and slices.ContainsFunc at a list of strings and whatever predicate that only reads. -/
import Derived.Test.YtlncfkgodioocaaS1
import Derived.Test.YtlncfkgodioocaaQ0a
import Derived.Shelf.Abstract
namespace Go.Proofs.Ytlncfkgodioocaa.P
open Go.RowKit Go.Proofs.YtlncfkgodioocaaW.PrintWords Go.Proofs.YtlncfkgodioocaaW.PrintLast Go.Proofs.YtlncfkgodioocaaW.PrintMore
set_option linter.unusedVariables false

/-- What is asked of a predicate on strings: in every world that has only been drawn from, it answers p and only draws. -/
def StrPred (g : Nat) (lb : Array Value) (p : ByteArray → Bool) (l : List ByteArray) (w : World) : Prop :=
  ∀ (W : World) (x : ByteArray), x ∈ l → Drawn0 w W → Calls Try.prog g (#[.string x] ++ lb) W fun e w' => e = .returned (.bool (p x)) ∧ Drawn0 w w'

def idxBy (p : ByteArray → Bool) : List ByteArray → Int → Int
  | [], _ => -1
  | x :: l, i => if p x then i else idxBy p l (i + 1)

theorem idxBy_any (p : ByteArray → Bool) : ∀ (l : List ByteArray) (i : Int), 0 ≤ i → (decide (idxBy p l i ≥ 0)) = l.any p
  | [], i, _ => by simp [idxBy]
  | x :: l, i, hi => by
    rw [List.any_cons, idxBy]
    by_cases h : p x = true
    · rw [if_pos h, h]; simp; exact hi
    · rw [if_neg h, idxBy_any p l (i + 1) (by omega)]; simp [h]

theorem drop_cons {l : List ByteArray} {k : Nat} (h : k < l.length) : l.drop k = rdOf ByteArray.empty l (k : Int) :: l.drop (k + 1) := by
  rw [List.drop_eq_getElem_cons h]
  congr 1
  simp [rdOf, List.getD_eq_getElem?_getD, List.getElem?_eq_getElem h]

set_option maxHeartbeats 800000 in
theorem indexFunc.calls (p : ByteArray → Bool) (g : Nat) (lb : Array Value) (eg : ∀ args w, (callFunc g args).run Try.prog w = .ok (.enter g args) w) (A : Option Addr) (c : Nat) (l : List ByteArray) (w : World)
    (hr : Kd.C Kd.string w A l.length l) (hp : StrPred g lb p l w) :
    Calls Try.prog 82 #[.slice A l.length c, .func (.func g) #[] lb] w fun e w' => e = .returned (.int .i64 (idxBy p l 0)) ∧ Drawn0 w w' := by
  have hmax : l.length ≤ 9223372036854775807 := hr.2.1
  have HR := Aside0.mk hr
  clear hr
  have HP := Aside0.mk hp
  clear hp
  go_enter Try.func82, Try.ntmps82
  go_wp2
  go_loopg [5, 8] l.length (fun gg _ s8 wr => ∃ kk : Nat, kk ≤ l.length ∧ l.length - kk ≤ gg ∧ s8 = .int .i64 kk ∧ Aside0 (Drawn0 w wr) ∧ Aside0 (idxBy p (l.drop kk) kk = idxBy p l 0))
  case atStart => exact ⟨0, Nat.zero_le _, by omega, rfl, ⟨Drawn0.refl _⟩, ⟨by simp⟩⟩
  case round =>
    obtain ⟨kk, hkk, hg, rfl, HD, HI⟩ := hrel
    by_cases hlt : kk < l.length
    · obtain ⟨ad, e, hx⟩ := Kd.at_string HR.out (kk : Int) (by omega) (by omega)
      cases e
      simp only [Int.toNat_natCast] at hx
      obtain ⟨n, rfl⟩ := HD.out.out
      have hcall := HP.out _ (rdOf ByteArray.empty l (kk : Int)) (by rw [rdOf_nat _ _ hlt]; exact List.getElem_mem hlt) HD.out
      have HI2 := HI.out
      rw [drop_cons hlt] at HI2
      clear HI
      have hltz : (kk : Int) < (l.length : Int) := by omega
      generalize hy : rdOf ByteArray.empty l (kk : Int) = y at *
      clear hy
      simp only [idxBy] at HI2
      cases hq : p y with
      | true =>
        rw [hq] at hcall HI2
        rw [if_pos rfl] at HI2
        have HI := Aside0.mk HI2
        clear HI2
        clear hq
        go_wp2_with (go_at_fn g; refine hcall.mono ?_; rintro e w' ⟨rfl, ⟨n2, rfl⟩⟩)
        go_ret
        exact ⟨mw_ret_i64 HI.out, ⟨_, rfl⟩⟩
      | false =>
        rw [hq] at hcall HI2
        rw [if_neg (by simp)] at HI2
        have HI := Aside0.mk HI2
        clear HI2
        clear hq
        go_wp2_with (go_at_fn g; refine hcall.mono ?_; rintro e w' ⟨rfl, ⟨n2, rfl⟩⟩)
        go_roundg (l.length - (kk + 1))
        case measure => omega
        case rel => exact ⟨kk + 1, by omega, by omega, by go_num, ⟨_, rfl⟩, ⟨HI.out⟩⟩
    · have : kk = l.length := by omega
      subst this
      have HI2 := HI.out
      simp only [List.drop_length, idxBy] at HI2
      have hltz : ¬ (l.length : Int) < (l.length : Int) := by omega
      have HI3 := Aside0.mk HI2
      clear HI2 HI
      obtain ⟨n, rfl⟩ := HD.out.out
      go_wp2
      go_ret
      exact ⟨mw_ret_i64 HI3.out, ⟨_, rfl⟩⟩

set_option maxHeartbeats 400000 in
theorem containsFunc.calls (p : ByteArray → Bool) (g : Nat) (lb : Array Value) (eg : ∀ args w, (callFunc g args).run Try.prog w = .ok (.enter g args) w) (A : Option Addr) (c : Nat) (l : List ByteArray) (w : World)
    (hr : Kd.C Kd.string w A l.length l) (hp : StrPred g lb p l w) :
    Calls Try.prog 43 #[.slice A l.length c, .func (.func g) #[] lb] w fun e w' => e = .returned (.bool (l.any p)) ∧ Drawn0 w w' := by
  have HC := Aside0.mk (indexFunc.calls p g lb eg A c l w hr hp)
  clear hr hp
  clear eg
  go_enter Try.func43, Try.ntmps43
  go_wp2_with (go_at_call 82; refine HC.out.mono ?_; rintro e w' ⟨rfl, ⟨n2, rfl⟩⟩)
  go_ret
  exact ⟨mw_ret_bool (idxBy_any p l 0 (by omega)), ⟨_, rfl⟩⟩

theorem enters_isLong : ∀ args w, (callFunc 44 args).run Try.prog w = .ok (.enter 44 args) w := enters_of Try.func44 (by kernel_rfl) rfl
theorem enters_notSym : ∀ args w, (callFunc 49 args).run Try.prog w = .ok (.enter 49 args) w := enters_of Try.func49 (by kernel_rfl) rfl

theorem pred_isLong (l : List ByteArray) (w : World) : StrPred 44 #[] isLong l w := by
  intro W x _ hd
  have h := syms_isLong.calls x (isLong x) W (by simp [syms_isLong.f, isLong])
  refine h.mono ?_
  rintro e w' ⟨he, ⟨n, rfl⟩⟩
  obtain ⟨m, rfl⟩ := hd.out
  exact ⟨he, ⟨m + n, by rw [World.drewN_drewN]⟩⟩

theorem notSym.calls (x : ByteArray) (hx : x.size ≤ 9223372036854775807) (w : World) :
    Calls Try.prog 49 #[.string x] w fun e w' => e = .returned (.bool (!isSym x)) ∧ Drawn0 w w' := by
  obtain ⟨k, hk⟩ := (isSymbol_ev x hx).rounds
  have HC := Aside0.mk (fun W => syms_isSymbol.calls k x (isSym x) W hk)
  clear hk
  go_enter Try.func49, Try.ntmps49
  go_wp2_with (go_at_call 45; refine (HC.out _).mono ?_; rintro e w' ⟨rfl, ⟨n2, rfl⟩⟩)
  go_ret
  exact ⟨rfl, ⟨_, rfl⟩⟩

theorem pred_notSym (l : List ByteArray) (hl : l.any isLong = false) (w : World) : StrPred 49 #[] (fun x => !isSym x) l w := by
  intro W x hx hd
  have h16 : ¬ (16 < (x.size : Int)) := by
    have := List.any_eq_false.1 hl x hx
    simpa [isLong] using this
  refine (notSym.calls x (by omega) W).mono ?_
  rintro e w' ⟨he, ⟨n, rfl⟩⟩
  obtain ⟨m, rfl⟩ := hd.out
  exact ⟨he, ⟨m + n, by rw [World.drewN_drewN]⟩⟩

/-- slices.ContainsFunc at the two functions that this program hands to it. -/
def slices_ContainsFunc_string_string.f (l : List ByteArray) (v : Value) : Option Bool :=
  if fnOf v = some 44 then some (l.any isLong)
  else if fnOf v = some 49 then (if l.any isLong = true then none else some (!l.all isSym))
  else none

theorem slices_ContainsFunc_string_string.calls (A0 : Option Addr) (c0 : Nat) (l0 : List ByteArray) (a1 : Value) (r : Bool) (w : World) (hr0 : Kd.C Kd.string w A0 l0.length l0) (hc0 : l0.length ≤ c0) (h : slices_ContainsFunc_string_string.f l0 a1 = some r) :
    Calls Try.prog 43 #[.slice A0 l0.length c0, a1] w fun e w' => e = .returned (.bool r) ∧ Drawn0 w w' := by
  unfold slices_ContainsFunc_string_string.f at h
  by_cases h1 : fnOf a1 = some 44
  · rw [if_pos h1] at h
    obtain rfl := Option.some.inj h
    rw [fnOf_some h1]
    exact containsFunc.calls isLong 44 #[] enters_isLong A0 c0 l0 w hr0 (pred_isLong l0 w)
  rw [if_neg h1] at h
  by_cases h2 : fnOf a1 = some 49
  · rw [if_pos h2] at h
    by_cases hl : l0.any isLong = true
    · rw [if_pos hl] at h; cases h
    · rw [if_neg hl] at h
      obtain rfl := Option.some.inj h
      rw [fnOf_some h2]
      have := containsFunc.calls (fun x => !isSym x) 49 #[] enters_notSym A0 c0 l0 w hr0 (pred_notSym l0 (by simpa using hl) w)
      rwa [show l0.any (fun x => !isSym x) = !l0.all isSym by simp [List.any_eq_not_all_not]] at this
  · rw [if_neg h2] at h; cases h

end Go.Proofs.Ytlncfkgodioocaa.P

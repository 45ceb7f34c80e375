/- The library's locks in this program; (*Store).words. -/
import Derived.Test.YtphjjlhpepmofaaGreatAMZ
import Derived.Test.YtphjjlhpepmofaaGreatProg
import Derived.Conc.MuLone
import Derived.Tactics
import Derived.Tactics2
import Derived.Defers
import Derived.Laws.Pointers
import Derived.Laws.LoneSync
import Derived.KernelRfl
set_option linter.all false
namespace Go.Proofs
open Go
abbrev Tryz.muLink : Go.Conc.Locks.MuLink := { lock := 84, unlock := 85, ilock := 115, iunlock := 116, lockSlow := 139, unlockSlow := 142, disable := 135, enable := 137, acquire := 138, relMerge := 140, cas32 := 136, add32 := 141, tMutex := 130, tIMutex := 128, tPMutex := 160, tPIMutex := 175, tPI32 := 177, tUP := 179, tNoCopy := 125, tU32 := 126 }
theorem Tryz.muLib : Go.Conc.Locks.MuLib Tryz.prog Tryz.muLink :=
  ⟨Tryz.func84, Tryz.func85, Tryz.func115, Tryz.func116, Tryz.func135, Tryz.func137, Tryz.func138, Tryz.func140, Tryz.func136, Tryz.func141, Tryz.underlying128, Tryz.runUnderlying128, Tryz.sizeOf128, Tryz.isAgg128, Tryz.zeroValue128, Tryz.underlying130, Tryz.runUnderlying130, Tryz.sizeOf130, Tryz.isAgg130, Tryz.zeroValue130, Tryz.underlying160, Tryz.runUnderlying160, Tryz.sizeOf160, Tryz.isAgg160, Tryz.zeroValue160, Tryz.underlying175, Tryz.runUnderlying175, Tryz.sizeOf175, Tryz.isAgg175, Tryz.zeroValue175, Tryz.underlying177, Tryz.runUnderlying177, Tryz.sizeOf177, Tryz.isAgg177, Tryz.zeroValue177, Tryz.underlying179, Tryz.runUnderlying179, Tryz.sizeOf179, Tryz.isAgg179, Tryz.zeroValue179, Tryz.underlying125, Tryz.runUnderlying125, Tryz.sizeOf125, Tryz.isAgg125, Tryz.zeroValue125, Tryz.underlying21, Tryz.runUnderlying21, Tryz.sizeOf21, Tryz.isAgg21, Tryz.zeroValue21, (by kernel_rfl)⟩

set_option maxRecDepth 100000 in
set_option maxHeartbeats 1600000 in
/-- What words hands back: the lock is taken and given back. -/
theorem words_calls (b off : Nat) (v : Value) (w : World) (hc : w.cell? ⟨b, off, none⟩ = some (.int .i32 0)) (hv : w.cell? ⟨b, off + 2, none⟩ = some v) (hz : w.frozen? ⟨b, off, none⟩ = false) :
    Calls Tryz.prog 49 #[.pointer (some ⟨b, off, none⟩)] w fun e w' => e = .returned v ∧ w' = (w.setCell ⟨b, off, none⟩ (.int .i32 1)).setCell ⟨b, off, none⟩ (.int .i32 0) := by
  have h1 : Calls Tryz.prog 84 #[.pointer (some ⟨b, off, none⟩)] w _ := Go.MuLone.lock_free Tryz.muLib ⟨b, off, none⟩ w hc hz
  have hv' : (w.setCell ⟨b, off, none⟩ (.int .i32 1)).cell? ⟨b, off + 2, none⟩ = some v := (World.cell?_setCell_other _ ⟨b, off, none⟩ ⟨b, off + 2, none⟩ _ (by simp)).trans hv
  go_enter_defers Tryz.func49, Tryz.ntmps49
  go_wp2_with (go_at_call 84; refine h1.mono ?_; rintro e w' ⟨rfl, rfl⟩)
  have hc1 : (w.setCell ⟨b, off, none⟩ (.int .i32 1)).cell? ⟨b, off, none⟩ = some (.int .i32 1) := World.cell?_setCell_same w _ _ hc
  refine leaves_cons (f := 85) (args := #[.pointer (some ⟨b, off, none⟩)]) (by simp) (by simp [go_sem]) ?_
  refine CallsD.mono (Go.MuLone.unlock_deferred Tryz.muLib ⟨b, off, none⟩ .returning _ hc1 (by simpa using hz)) ?_
  rintro e u' w'' ⟨rfl, rfl, rfl⟩
  exact ⟨_, results_tmp rfl _ _ _, rfl, rfl⟩

open Go.AM
theorem setCell_back {w : World} {b off : Nat} {x y : Value} (h : w.cell? ⟨b, off, none⟩ = some y) : (w.setCell ⟨b, off, none⟩ x).setCell ⟨b, off, none⟩ y = w := by
  have hh : ((w.setCell ⟨b, off, none⟩ x).setCell ⟨b, off, none⟩ y).heap = w.heap := by
    apply Array.ext_getElem?
    intro k
    unfold World.cell? at h
    simp only [World.setCell, Array.getElem?_modify] at h ⊢
    by_cases hk : b = k
    · subst hk
      cases hb : w.heap[b]? with
      | none => rw [hb] at h; cases h
      | some o =>
        rw [hb] at h
        cases o with
        | cells c t fr =>
          simp only [Option.isSome_none, Bool.false_eq_true, if_false] at h
          simp only [if_true, Option.map_some, Option.isSome_none, Bool.false_eq_true, if_false]
          congr 2
          apply Array.ext_getElem?
          intro j
          by_cases hj : off = j
          · subst hj
            have hlt := (Array.getElem?_eq_some_iff.1 h).1
            rw [h]; simp [Array.getElem?_setIfInBounds, hlt]
          · rw [Array.getElem?_setIfInBounds_ne hj, Array.getElem?_setIfInBounds_ne hj]
        | _ => cases h
    · simp only [if_neg hk]
  show ({ w with heap := ((w.setCell ⟨b, off, none⟩ x).setCell ⟨b, off, none⟩ y).heap } : World) = w
  rw [hh]
variable [dr : Inhabited Prop]
/-- (*Store).words: the store's words, the store as it was. -/
theorem fokWords (p : PV) (hp : p.isSt = false) : FOk Tryz.prog 49 [.ptr 0 0 0] [(0, ⟨false, 3, [.st [.w (.int .i32 0), .w (.int .u32 0), p]]⟩)] (.v p) [(0, ⟨false, 3, [.st [.w (.int .i32 0), .w (.int .u32 0), p]]⟩)] := by
  refine ⟨fun xs W => Go.MuLone.run_callFunc_enter Tryz.func49 (by kernel_rfl) rfl xs W, ?_⟩
  intro W ok0 vals hdr ow hm hv
  match vals, hv with
  | [], hv => simp [RepAs] at hv
  | _ :: _ :: _, hv => simp [RepAs] at hv
  | [v0], hv =>
    simp only [RepAs, RepA] at hv
    obtain ⟨b0, o0, n0, c0, hx0, hv0⟩ := hv.1 _ rfl
    have hE := (hm.ent 0 _ rfl).plain (by simp)
    rcases hE with ⟨h, _⟩ | ⟨h, _⟩ | ⟨_, b, off, cap, c, hb, hh, hr, hoff, hcap, hR⟩
    · cases h
    · cases h
    · rw [hh] at hx0
      simp only [Value.slice.injEq, Option.some.injEq, Addr.mk.injEq, and_true] at hx0
      obtain ⟨⟨rfl, rfl⟩, _, _⟩ := hx0
      obtain ⟨g1, g2, g3⟩ := elem_row (i := 0) (by simp) hR rfl
      have g4 := g1.cells.1
      simp only [Nat.zero_mul, Nat.add_zero, PV.cells] at g4 hv0
      generalize hvs : (c.drop off).take 3 = vs at g4
      cases g4 with
      | cons a1 a2 a3 =>
        cases a3 with
        | cons b1 b2 b3 =>
          cases b3 with
          | cons d1 d2 d3 =>
            cases d3
            rename_i us1 us2 us3
            obtain ⟨v1, rfl⟩ := List.length_eq_one_iff.1 a1
            obtain ⟨v2, rfl⟩ := List.length_eq_one_iff.1 b1
            obtain ⟨v3, rfl⟩ := List.length_eq_one_iff.1 d1
            have e1 : v1 = .int .i32 0 := by
              have : RepV W (OK (Cx.of W ok0 (Own [(0, ⟨false, 3, [.st [.w (.int .i32 0), .w (.int .u32 0), p]]⟩)] ow)) W [(0, ⟨false, 3, [.st [.w (.int .i32 0), .w (.int .u32 0), p]]⟩)] ow) (.w (.int .i32 0)) v1 := by unfold RepV; rw [if_neg (by simp [PV.isSt])]; exact a2
              exact this.wInv.1
            subst e1
            obtain ⟨t, hr⟩ := hr
            have hget : ∀ j, j < 3 → W.cell? ⟨b, off + j, none⟩ = [Value.int .i32 0, v2, v3][j]? := fun j hj => by
              have : ((c.drop off).take 3)[j]? = [Value.int .i32 0, v2, v3][j]? := by rw [hvs]; rfl
              rw [List.getElem?_take_of_lt hj, List.getElem?_drop] at this
              simp only [World.cell?, hr, Option.isSome_none, Bool.false_eq_true, if_false, List.getElem?_toArray, this]
            have hcl := words_calls b off v3 W (by simpa using hget 0 (by omega)) (by simpa using hget 2 (by omega)) (by simp [World.frozen?, hr])
            subst hv0
            refine hcl.mono ?_
            rintro e W' ⟨rfl, hW⟩
            rw [setCell_back (by simpa using hget 0 (by omega))] at hW
            subst hW
            refine ⟨v3, hdr, ow, rfl, hm, ?_, fun k e e' h1 h2 => by rw [h1] at h2; cases h2; exact ⟨rfl, rfl⟩⟩
            simp only [RepA]
            unfold RepV
            rw [if_neg (by rw [hp]; simp)]
            exact d2

set_option maxRecDepth 100000 in
set_option maxHeartbeats 1600000 in
/-- What List hands back. -/
theorem list_calls (b off : Nat) (v : Value) (w : World) (hv : w.cell? ⟨b, off, none⟩ = some v) :
    Calls Tryz.prog 31 #[.pointer (some ⟨b, off, none⟩)] w fun e w' => e = .returned v ∧ w' = w := by
  go_enter Tryz.func31, Tryz.ntmps31
  go_wp2
  go_ret
  exact ⟨rfl, rfl⟩
theorem fokList (p : PV) (hp : p.isSt = false) : FOk Tryz.prog 31 [.ptr 0 0 0] [(0, ⟨false, 1, [.st [p]]⟩)] (.v p) [(0, ⟨false, 1, [.st [p]]⟩)] := by
  refine ⟨fun xs W => Go.MuLone.run_callFunc_enter Tryz.func31 (by kernel_rfl) rfl xs W, ?_⟩
  intro W ok0 vals hdr ow hm hv
  match vals, hv with
  | [], hv => simp [RepAs] at hv
  | _ :: _ :: _, hv => simp [RepAs] at hv
  | [v0], hv =>
    simp only [RepAs, RepA] at hv
    obtain ⟨b0, o0, n0, c0, hx0, hv0⟩ := hv.1 _ rfl
    have hE := (hm.ent 0 _ rfl).plain (by simp)
    rcases hE with ⟨h, _⟩ | ⟨h, _⟩ | ⟨_, b, off, cap, c, hb, hh, hr, hoff, hcap, hR⟩
    · cases h
    · cases h
    · rw [hh] at hx0
      simp only [Value.slice.injEq, Option.some.injEq, Addr.mk.injEq, and_true] at hx0
      obtain ⟨⟨rfl, rfl⟩, _, _⟩ := hx0
      obtain ⟨g1, g2, g3⟩ := elem_row (i := 0) (by simp) hR rfl
      have g4 := g1.cells.1
      simp only [Nat.zero_mul, Nat.add_zero, PV.cells] at g4 hv0
      generalize hvs : (c.drop off).take 1 = vs at g4
      cases g4 with
      | cons a1 a2 a3 =>
        cases a3
        rename_i us1
        obtain ⟨v1, rfl⟩ := List.length_eq_one_iff.1 a1
        obtain ⟨t, hr⟩ := hr
        have hget : W.cell? ⟨b, off, none⟩ = some v1 := by
          have : ((c.drop off).take 1)[0]? = some v1 := by rw [hvs]; rfl
          rw [List.getElem?_take_of_lt (by omega), List.getElem?_drop, Nat.add_zero] at this
          simp only [World.cell?, hr, Option.isSome_none, Bool.false_eq_true, if_false, List.getElem?_toArray, this]
        have hcl := list_calls b off v1 W hget
        subst hv0
        refine hcl.mono ?_
        rintro e W' ⟨rfl, rfl⟩
        refine ⟨v1, hdr, ow, rfl, hm, ?_, fun k e e' h1 h2 => by rw [h1] at h2; cases h2; exact ⟨rfl, rfl⟩⟩
        simp only [RepA]
        unfold RepV
        rw [if_neg (by rw [hp]; simp)]
        exact a2
set_option maxRecDepth 100000 in
set_option maxHeartbeats 1600000 in
theorem words_nil (w : World) : Calls Tryz.prog 49 #[.pointer none] w fun e w' => e = .returned (.slice none 0 0) ∧ w' = w := by
  go_enter_defers Tryz.func49, Tryz.ntmps49
  go_wp2
  exact ⟨_, results_tmp rfl _ _ _, rfl, rfl⟩
theorem fokWordsNil : FOk Tryz.prog 49 [.v (.w (.pointer none))] [] (.v (.sl 1 [])) [] := by
  refine ⟨fun xs W => Go.MuLone.run_callFunc_enter Tryz.func49 (by kernel_rfl) rfl xs W, ?_⟩
  intro W ok0 vals hdr ow hm hv
  match vals, hv with
  | [], hv => simp [RepAs] at hv
  | _ :: _ :: _, hv => simp [RepAs] at hv
  | [v0], hv =>
    simp only [RepAs, RepA] at hv
    obtain rfl := hv.1.wInv.1
    refine (words_nil W).mono ?_
    rintro e W' ⟨rfl, rfl⟩
    refine ⟨_, hdr, ow, rfl, hm, ?_, fun k e e' h1 h2 => by simp [find] at h1⟩
    simp only [RepA]
    exact RepV.sl .nil
end Go.Proofs

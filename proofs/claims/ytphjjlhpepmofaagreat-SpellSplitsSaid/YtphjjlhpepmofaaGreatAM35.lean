/- From the library's contracts of slices.Sort, sort.Strings at texts to the walk's. -/
import Derived.Test.YtphjjlhpepmofaaGreatAM30
import Derived.Test.YtphjjlhpepmofaaGreatAMZ
import Derived.Shelf.Sort.Plain
import Derived.Shelf.Slices.In.SortNone
set_option linter.all false
namespace Go.AM
open Go Go.Shelf Go.RowKit Go.Lib Go.Sort Go.Proofs
variable [dr : Inhabited Prop]
/-- Texts as cells. -/
def strsV (l : List Bs) : List PV := l.map fun s => .w (.string (bs s))
def srtB (l : List Bs) : List Bs := l.mergeSort fun x y => decide (x ≤ y)
theorem strs_rep {W : World} {ok : Nat → Prop} : ∀ {l : List Bs} {vs : List Value}, RepL W ok 1 (strsV l) vs → vs = l.map fun s => .string (bs s)
  | [], _, h => by cases h; rfl
  | s :: l, _, h => by
    cases h with
    | cons h1 h2 h3 =>
      rename_i us ws
      obtain ⟨v, rfl⟩ := List.length_eq_one_iff.1 h1
      have hv : v = .string (bs s) := by
        have : RepV W ok (.w (.string (bs s))) v := by unfold RepV; rw [if_neg (by simp [PV.isSt])]; exact h2
        exact this.wInv.1
      have ih := strs_rep (l := l) h3
      rw [hv, ih]; rfl
theorem rep_strs {W : World} {ok : Nat → Prop} : ∀ (l : List Bs), RepL W ok 1 (strsV l) (l.map fun s => .string (bs s))
  | [] => .nil
  | s :: l => RepL.cons (vs := [.string (bs s)]) rfl (by
      have : RepV W ok (.w (.string (bs s))) (.string (bs s)) := RepV.w (by simp [scal])
      unfold RepV at this; rw [if_neg (by simp [PV.isSt])] at this; exact this) (rep_strs l)
theorem FOk.sortG {P : Program} {f : FuncId} (hen : ∀ (xs : Array Value) (W : World), (callFunc f xs).run P W = .ok (.enter f xs) W)
    (hnone : ∀ (p : Option Addr) (cap : Nat) (w : World), Calls P f #[.slice p 0 cap] w fun e w' => e = .returned (.tuple #[]) ∧ w' = w)
    (hsome : ∀ (blk off cap : Nat) (ss : List (List UInt8)) (w : World), Holds encStr w blk off ss.toArray → blk < w.heap.size → ss.length < 4611686018427387904 →
      Calls P f #[.slice (some ⟨blk, off, none⟩) ss.length cap] w fun e w' => e = .returned (.tuple #[]) ∧ ∃ n os, w' = grow (putRow encStr (Sort.ahead w n) blk off (ss.mergeSort fun x y => decide (x ≤ y)).toArray) os)
    (l : List Bs) (hlen : l.length < 4611686018427387904) : FOk P f [.h 0] [(0, ⟨false, 1, strsV l⟩)] (.tup []) [(0, ⟨false, 1, strsV (srtB l)⟩)] := by
  refine ⟨hen, ?_⟩
  intro W ok0 vals hdr ow hm hv
  obtain ⟨v0, rfl, h0⟩ : ∃ v0, vals = [v0] ∧ v0 = hdr 0 := by
    match vals, hv with
    | [], hv => simp [RepAs] at hv
    | _ :: _ :: _, hv => simp [RepAs] at hv
    | [v0], hv =>
      simp only [RepAs, RepA] at hv
      exact ⟨v0, rfl, hv.1 _ rfl⟩
  subst h0
  have hkeep : ∀ k e e', find [(0, (⟨false, 1, strsV l⟩ : Ent))] k = some e → find [(0, (⟨false, 1, strsV (srtB l)⟩ : Ent))] k = some e' → hdr k = hdr k ∧ e'.sz = e.sz := by
    intro k e e' h1 h2
    simp only [find] at h1 h2
    split at h1
    · rename_i hk; rw [if_pos hk] at h2; cases h1; cases h2; exact ⟨rfl, rfl⟩
    · cases h1
  have hE := (hm.ent 0 _ rfl).plain (by simp)
  by_cases hl : l = []
  · subst hl
    obtain ⟨p, cap, hx⟩ : ∃ p cap, hdr 0 = .slice p 0 cap := by
      rcases hE with ⟨h, _⟩ | ⟨_, _, ao, hx⟩ | ⟨_, b, off, cap, cc, hb, hh, _⟩
      · cases h
      · exact ⟨ao, 0, hx⟩
      · exact ⟨_, cap, hh⟩
    have hcall := hnone p cap W
    rw [← hx] at hcall
    refine hcall.mono ?_
    rintro e w' ⟨rfl, rfl⟩
    exact ⟨_, hdr, ow, rfl, by simpa [srtB] using hm, by simp only [RepA]; exact ⟨[], rfl, by simp [RepAs]⟩, hkeep⟩
  · rcases hE with ⟨h, _⟩ | ⟨h, _⟩ | ⟨_, b, off, cap, cc, hb, hh, hr, hoff, hcap, hR⟩
    · cases h
    · simp [strsV] at h; exact absurd h hl
    · simp only at hR hcap hoff hh
      have hvs := strs_rep hR
      have hll : (strsV l).length = l.length := by simp [strsV]
      have hH : Holds encStr W b off l.toArray := by
        intro j hj
        have hj' : j < l.length := by simpa using hj
        obtain ⟨t, hr⟩ := hr
        have h3 : cc[off + j]? = some (.string (bs l[j])) := by
          have h4 : ((cc.drop off).take ((strsV l).length * 1))[j]? = (l.map fun s => Value.string (bs s))[j]? := by rw [hvs]
          rw [List.getElem?_take_of_lt (by omega), List.getElem?_drop] at h4
          rw [h4]; simp [List.getElem?_eq_getElem hj']
        refine ⟨?_, ?_⟩
        · simp only [World.cell?, hr, List.getElem?_toArray, h3]
          rw [getElem!_pos _ j hj]
          rfl
        · simp [World.frozen?, hr]
      have hsort := hsome b off cap l W hH (hm.lt 0 _ b rfl hb).1 hlen
      rw [show (.slice (some ⟨b, off, none⟩) l.length cap : Value) = hdr 0 by rw [hh]; simp [hll]] at hsort
      refine hsort.mono ?_
      rintro e w' ⟨rfl, n, os, rfl⟩
      refine ⟨_, hdr, ow, rfl, ?_, by simp only [RepA]; exact ⟨[], rfl, by simp [RepAs]⟩, hkeep⟩
      rw [putRow_map]
      refine sw_mem (by simp) hm hb hh hr hoff hcap n _ os (by simp [strsV, srtB]) (by simp [strsV, srtB]) ?_
      rw [Array.toList_map]
      exact rep_strs (srtB l)
/-- slices.Sort at texts. -/
theorem FOk.sortS {P : Program} {ρ : Ren} (L : Lays.n190 P ρ) (hen : ∀ (xs : Array Value) (W : World), (callFunc (ρ.f 190) xs).run P W = .ok (.enter (ρ.f 190) xs) W) (l : List Bs) (hlen : l.length < 4611686018427387904) : FOk P (ρ.f 190) [.h 0] [(0, ⟨false, 1, strsV l⟩)] (.tup []) [(0, ⟨false, 1, strsV (srtB l)⟩)] :=
  FOk.sortG hen (fun p cap w => Any.slices_Sort_string_none L p cap w) (fun blk off cap ss w h1 h2 h3 => Any.slices_Sort_string L blk off cap ss w h1 h2 h3) l hlen
end Go.AM

/- From the library's contract of slices.SortFunc to the walk's. -/
import Derived.Test.YtphjjlhpepmofaaGreatAMZ
import Derived.Shelf.SlSortCmp.NoneTotal
set_option linter.all false
namespace Go.AM
open Go Go.Shelf Go.RowKit Go.Lib Go.Sort Go.Proofs
section swd
variable [dr : Inhabited Prop]

theorem RepC.oneCell {W : World} {ok : Nat → Prop} {p : PV} {v : Value} (h : RepC W ok p [v]) (hp : p.isSt = false) : v.oneCell' = true := by
  cases h with
  | w hs => cases v <;> simp_all [scal, Value.oneCell']
  | nil => rfl
  | sl => rfl
  | pt => rfl
  | cl => rfl
  | nls => rfl
  | if1 => rfl
  | ifS => rfl
  | st => simp at hp

/-- What a sort's world has in common with the one ahead of it. -/
theorem sw_other (W : World) (b off m : Nat) (cs : Array Value) (os : Array Obj) : ∀ k, k ≠ b → k < W.heap.size → (grow (putRow id (Sort.ahead W m) b off cs) os).heap[k]? = W.heap[k]? := by
  intro k hk hlt
  have h1 : (putRow id (Sort.ahead W m) b off cs).heap[k]? = W.heap[k]? := by
    show (W.heap.modify b _)[k]? = _
    rw [Array.getElem?_modify]; simp [Ne.symm hk]
  show ((putRow id (Sort.ahead W m) b off cs).heap ++ os)[k]? = _
  rw [Array.getElem?_append_left (by simpa using hlt), h1]

theorem sw_size (W : World) (b off m : Nat) (cs : Array Value) (os : Array Obj) : W.heap.size ≤ (grow (putRow id (Sort.ahead W m) b off cs) os).heap.size := by
  show _ ≤ ((putRow id (Sort.ahead W m) b off cs).heap ++ os).size
  simp

theorem putCells_list (off : Nat) (cs : Array Value) (c : List Value) (h : off + cs.size ≤ c.length) : (putCells id off cs c.toArray).toList = c.take off ++ cs.toList ++ c.drop (off + cs.size) := by
  apply List.ext_getElem?
  intro k
  simp only [putCells, Array.getElem?_toList, Array.getElem?_mapIdx, List.getElem?_toArray]
  by_cases h1 : k < off
  · rw [List.append_assoc, List.getElem?_append_left (by simp; omega), List.getElem?_take_of_lt h1]
    cases c[k]? <;> simp; omega
  · by_cases h2 : k < off + cs.size
    · rw [List.getElem?_append_left (by simp; omega), List.getElem?_append_right (by simp; omega)]
      rw [List.getElem?_eq_getElem (show k < c.length by omega)]
      simp only [Option.map_some, List.length_take, Nat.min_eq_left (show off ≤ c.length by omega), id]
      rw [if_pos ⟨by omega, h2⟩, getElem!_pos cs (k - off) (by omega)]
      simp [Array.getElem?_eq_getElem (show k - off < cs.size by omega)]
    · rw [List.getElem?_append_right (by simp; omega)]
      simp only [List.length_append, List.length_take, Nat.min_eq_left (show off ≤ c.length by omega), Array.length_toList, List.getElem?_drop, show off + cs.size + (k - (off + cs.size)) = k by omega]
      cases c[k]? <;> simp; omega

theorem sw_row {W : World} {b off : Nat} {c : List Value} (h : World.rowO W b c) (m : Nat) (cs : Array Value) (os : Array Obj) (hl : off + cs.size ≤ c.length) :
    World.rowO (grow (putRow id (Sort.ahead W m) b off cs) os) b (c.take off ++ cs.toList ++ c.drop (off + cs.size)) := by
  obtain ⟨t, h⟩ := h
  have hlt : b < W.heap.size := by
    by_cases hb : b < W.heap.size
    · exact hb
    · rw [Array.getElem?_eq_none (by omega)] at h; cases h
  refine ⟨t, ?_⟩
  show ((putRow id (Sort.ahead W m) b off cs).heap ++ os)[b]? = _
  rw [Array.getElem?_append_left (by simpa using hlt)]
  show (W.heap.modify b _)[b]? = _
  rw [Array.getElem?_modify, if_pos rfl, h]
  simp only [Option.map_some, onCells]
  congr 2
  apply Array.ext'
  rw [putCells_list off cs c hl]

/-- Behind the sort the row holds the elements in their new order. -/
theorem sw_mem {W : World} {ok0 : Nat → Prop} {sz : Nat} {l l' : List PV} {hdr : Nat → Value} {ow : Nat → Option Nat} (hz : sz ≠ 0)
    (hm : Mem (Cx.of W ok0 (Own [(0, ⟨false, sz, l⟩)] ow)) W [(0, ⟨false, sz, l⟩)] hdr ow) {b off cap : Nat} {c : List Value} (hb : ow 0 = some b) (hh : hdr 0 = .slice (some ⟨b, off, none⟩) l.length cap)
    (hr : World.rowO W b c) (hc : off + cap * sz ≤ c.length) (hcap : l.length ≤ cap) (m : Nat) (cs : Array Value) (os : Array Obj) (hl : l'.length = l.length) (hcs : cs.size = l'.length * sz)
    (hR : RepL W (OK (Cx.of W ok0 (Own [(0, ⟨false, sz, l⟩)] ow)) W [(0, ⟨false, sz, l⟩)] ow) sz l' cs.toList) :
    Mem (Cx.of W ok0 (Own [(0, ⟨false, sz, l⟩)] ow)) (grow (putRow id (Sort.ahead W m) b off cs) os) [(0, ⟨false, sz, l'⟩)] hdr ow := by
  have hle : off + cs.size ≤ c.length := by
    rw [hcs, hl]; exact Nat.le_trans (Nat.add_le_add_left (Nat.mul_le_mul_right sz hcap) off) hc
  have hown : ∀ l2 j, Own [(0, ⟨false, sz, l2⟩)] ow j ↔ j = b := by
    intro l2 j
    constructor
    · rintro ⟨id, e, h1, h2⟩
      simp only [find] at h1
      split at h1
      · rename_i h0; subst h0; rw [hb] at h2; cases h2; rfl
      · cases h1
    · rintro rfl; exact ⟨0, _, rfl, hb⟩
  have hlt : b < W.heap.size := (hm.lt 0 _ b rfl hb).1
  have hok : ∀ j, OK (Cx.of W ok0 (Own [(0, ⟨false, sz, l⟩)] ow)) W [(0, ⟨false, sz, l⟩)] ow j → OK (Cx.of W ok0 (Own [(0, ⟨false, sz, l⟩)] ow)) (grow (putRow id (Sort.ahead W m) b off cs) os) [(0, ⟨false, sz, l'⟩)] ow j ∧ (grow (putRow id (Sort.ahead W m) b off cs) os).heap[j]? = W.heap[j]? := by
    rintro j ⟨⟨h1, h2⟩, h3⟩
    rw [hown] at h3
    refine ⟨⟨⟨h1, Nat.lt_of_lt_of_le h2 (sw_size ..)⟩, ?_⟩, sw_other W b off m cs os j h3 h2⟩
    rw [hown]; exact h3
  have hrow := sw_row hr m cs os hle
  refine ⟨?_, ?_, ?_, sw_size .., ?_, rfl, rfl, ⟨rfl, fun _ => by show W.drawn ≤ W.drawn + m; omega⟩⟩
  · intro id e he
    simp only [find] at he
    split at he
    · rename_i h0; subst h0; cases he
      refine .inl ⟨fun h => absurd h hz, .inr (.inr ⟨rfl, b, off, cap, _, hb, ?_, hrow, ?_, ?_, ?_⟩)⟩
      · rw [hh]; simp only [hl]
      · simp only [List.length_append, List.length_take, List.length_drop, Array.length_toList]; omega
      · simpa only [hl] using hcap
      · have e1 : ((c.take off ++ cs.toList ++ c.drop (off + cs.size)).drop off).take (l'.length * sz) = cs.toList := by
          have e0 : (c.take off).length = off := by simp only [List.length_take]; omega
          rw [List.append_assoc, List.drop_append_of_le_length (by omega), List.drop_eq_nil_of_le (by omega)]
          rw [List.nil_append, ← hcs, List.take_append_of_le_length (by simp)]
          exact List.take_of_length_le (by simp)
        simp only [e1]
        exact hR.mono hok
    · cases he
  · intro i j e e' b' h1 h2 _ _
    simp only [find] at h1 h2
    split at h1
    · split at h2
      · rename_i a b; rw [a, b]
      · cases h2
    · cases h1
  · intro id e b' h1 h2
    simp only [find] at h1
    split at h1
    · rename_i h0; subst h0; rw [hb] at h2; cases h2
      refine ⟨Nat.lt_of_lt_of_le hlt (sw_size ..), .inl ((hown l b).2 rfl)⟩
    · cases h1
  · intro j hj hno
    exact sw_other W b off m cs os j (fun h => hno ((hown l j).2 h)) hj

end swd

/-- A call that is handed no row of its own, in a sort's world. -/
theorem FOk.inSort {P : Program} {g : FuncId} {args : List AV} {n : Int} (h : @FOk instInhabitedProp P g args [] (.v (.w (.int .i64 n))) []) {W : World} {ok : Nat → Prop} {hdr : Nat → Value} {H : Heap} {vals : List Value} (b off m : Nat) (cs : Array Value) (os : Array Obj)
    (hok : ∀ j, ok j → j ≠ b ∧ j < W.heap.size) (hv : RepAs W ok hdr H args vals) :
    Calls P g vals.toArray (grow (putRow id (Sort.ahead W m) b off cs) os) fun e w' => e = .returned (.int .i64 n) ∧ ∃ q os', w' = grow ((grow (putRow id (Sort.ahead W m) b off cs) os).drewN q) os' := by
  have hoth : ∀ j, ok j → (j < (grow (putRow id (Sort.ahead W m) b off cs) os).heap.size) ∧ (grow (putRow id (Sort.ahead W m) b off cs) os).heap[j]? = W.heap[j]? := fun j hj =>
    ⟨Nat.lt_of_lt_of_le (hok j hj).2 (sw_size ..), sw_other W b off m cs os j (hok j hj).1 (hok j hj).2⟩
  generalize grow (putRow id (Sort.ahead W m) b off cs) os = V at hoth ⊢
  have no : ∀ j, ¬ Own [] (fun _ => none) j := by rintro j ⟨id, e, h1, _⟩; simp [find] at h1
  refine (h.2 V (· < V.heap.size) vals (fun _ => default) (fun _ => none) ?_ ?_).mono fun e W' he => ?_
  · exact ⟨fun id e h => by simp [find] at h, fun id id' e e' b h => by simp [find] at h, fun id e b h => by simp [find] at h, Nat.le_refl _, fun _ _ _ => rfl, rfl, rfl, .refl _⟩
  · exact RepAs.mono (fun j hj => ⟨⟨⟨.inl (hoth j hj).1, (hoth j hj).1⟩, no j⟩, (hoth j hj).2⟩) args vals (fun id _ e' he' => by simp [find] at he') hv
  · obtain ⟨v, hdr', ow', rfl, hm, hr, _⟩ := he
    simp only [RepA] at hr
    refine ⟨by rw [hr.wInv.1], W'.drawn - V.drawn, W'.heap.extract V.heap.size W'.heap.size, ?_⟩
    have h1 : W'.heap = V.heap ++ W'.heap.extract V.heap.size W'.heap.size := by
      apply Array.ext_getElem?
      intro k
      by_cases hk : k < V.heap.size
      · rw [Array.getElem?_append_left hk]; exact hm.frame k hk (fun ho => no k ho)
      · rw [Array.getElem?_append_right (by omega), Array.getElem?_extract]
        by_cases hk2 : k < W'.heap.size
        · rw [if_pos (by omega)]; congr 1; omega
        · rw [if_neg (by omega), Array.getElem?_eq_none (by omega)]
    have h2 : V.drawn + (W'.drawn - V.drawn) = W'.drawn := by have : V.drawn ≤ W'.drawn := hm.output.2 True.intro; omega
    have h3 := hm.os; have h4 := hm.tape; have h5 := hm.output.1
    show W' = { V with drawn := V.drawn + (W'.drawn - V.drawn), heap := V.heap ++ W'.heap.extract V.heap.size W'.heap.size }
    rw [← h1, h2]
    cases W'; cases V
    simp only at h3 h4 h5 ⊢
    subst h3 h4 h5
    rfl

variable [dr : Inhabited Prop]
theorem putRow_map {α : Type} [Inhabited α] (enc : α → Value) (W : World) (b off : Nat) (d : Array α) : putRow enc W b off d = putRow id W b off (d.map enc) := by
  unfold putRow
  congr 1
  funext c
  unfold putCells
  simp only [Array.size_map]
  congr 1
  funext k x
  by_cases h : off ≤ k ∧ k < off + d.size
  · rw [if_pos h, if_pos h, getElem!_pos d _ (by omega), getElem!_pos (d.map enc) _ (by simp; omega)]; simp
  · rw [if_neg h, if_neg h]

section sort1
variable {W : World} {ok : Nat → Prop} {S : PV → Prop}

/-- The elements of a row with the cells that bear them. -/
def El (W : World) (ok : Nat → Prop) (S : PV → Prop) : Type := { x : PV × Value // S x.1 ∧ x.1.isSt = false ∧ RepC W ok x.1 [x.2] }

theorem El.of : ∀ {l : List PV} {vs : List Value}, RepL W ok 1 l vs → (∀ p ∈ l, S p ∧ p.isSt = false) → ∃ ds : List (El W ok S), ds.map (·.1.1) = l ∧ ds.map (·.1.2) = vs
  | [], _, h, _ => by cases h; exact ⟨[], rfl, rfl⟩
  | p :: l, _, h, hs => by
    cases h with
    | cons h1 h2 h3 =>
      rename_i us ws
      obtain ⟨ds, e1, e2⟩ := El.of h3 (fun q hq => hs q (List.mem_cons_of_mem _ hq))
      obtain ⟨v, rfl⟩ := List.length_eq_one_iff.1 h1
      have hp := hs p (List.mem_cons_self ..)
      exact ⟨⟨(p, v), hp.1, hp.2, h2⟩ :: ds, congrArg (p :: ·) e1, congrArg (v :: ·) e2⟩

theorem El.rep : ∀ (es : List (El W ok S)), RepL W ok 1 (es.map (·.1.1)) (es.map (·.1.2))
  | [] => .nil
  | x :: es => RepL.cons (vs := [x.1.2]) rfl x.2.2.2 (El.rep es)
end sort1

/-- slices.SortFunc at elements of one cell: l' is the one order of l that there is. -/
theorem FOk.sort1 {P : Program} {ρ : Ren} (L : SlLaysF.n6 P ρ) {g : FuncId} {caps : List AV} (S : PV → Prop) (c : PV → PV → Int) {l l' : List PV}
    (hS : ∀ p ∈ l, S p ∧ p.isSt = false)
    (hc : ∀ p q, S p → S q → @FOk instInhabitedProp P g (.v p :: .v q :: caps) [] (.v (.w (.int .i64 (c p q)))) [])
    (hO1 : ∀ p, S p → ¬ c p p < 0) (hO2 : ∀ p q r, S p → S q → S r → c p q < 0 → c q r < 0 → c p r < 0) (hO3 : ∀ p q r, S p → S q → S r → ¬ c p q < 0 → ¬ c q r < 0 → ¬ c p r < 0)
    (huniq : ∀ m : List PV, m.Perm l → m.Pairwise (fun p q => ¬ c q p < 0) → m = l') (hlen : l.length < 4611686018427387904) :
    FOk P (ρ.f 6) [.h 0, .fn g caps] [(0, ⟨false, 1, l⟩)] (.tup []) [(0, ⟨false, 1, l'⟩)] := by
  refine ⟨L.f6.enters rfl, ?_⟩
  intro W ok0 vals hdr ow hm hv
  obtain ⟨v0, v1, rfl, h0, vs, rfl, hcaps⟩ : ∃ v0 v1, vals = [v0, v1] ∧ v0 = hdr 0 ∧ ∃ vs : List Value, v1 = .func (.func g) #[] vs.toArray ∧ RepAs W (OK (Cx.of W ok0 (Own [(0, ⟨false, 1, l⟩)] ow)) W [(0, ⟨false, 1, l⟩)] ow) hdr [(0, ⟨false, 1, l⟩)] caps vs := by
    match vals, hv with
    | [], hv => simp [RepAs] at hv
    | [_], hv => simp [RepAs] at hv
    | _ :: _ :: _ :: _, hv => simp [RepAs] at hv
    | [v0, v1], hv =>
      simp only [RepAs, RepA] at hv
      obtain ⟨q1, ⟨vs, q2, q3⟩, _⟩ := hv
      exact ⟨v0, v1, rfl, q1 _ rfl, vs, q2, q3⟩
  subst h0
  have hkeep : ∀ k e e', find [(0, (⟨false, 1, l⟩ : Ent))] k = some e → find [(0, (⟨false, 1, l'⟩ : Ent))] k = some e' → hdr k = hdr k ∧ e'.sz = e.sz := by
    intro k e e' h1 h2
    simp only [find] at h1 h2
    split at h1
    · rename_i hk; rw [if_pos hk] at h2; cases h1; cases h2; exact ⟨rfl, rfl⟩
    · cases h1
  have hE := (hm.ent 0 _ rfl).plain (by simp)
  by_cases hl : l = []
  · subst hl
    have hl' : l' = [] := (huniq [] (.refl _) .nil).symm
    subst hl'
    obtain ⟨p, cap, hx⟩ : ∃ p cap, hdr 0 = .slice p 0 cap := by
      rcases hE with ⟨h, _⟩ | ⟨_, _, ao, hx⟩ | ⟨_, b, off, cap, cc, hb, hh, _⟩
      · cases h
      · exact ⟨ao, 0, hx⟩
      · exact ⟨_, cap, hh⟩
    have hcall := AnyF.slices_SortFunc_none (P := P) (ρ := ρ) { L with } p cap (.func (.func g) #[] vs.toArray) W
    rw [← hx] at hcall
    refine hcall.mono ?_
    rintro e w' ⟨rfl, rfl⟩
    exact ⟨_, hdr, ow, rfl, hm, by simp only [RepA]; exact ⟨[], rfl, by simp [RepAs]⟩, hkeep⟩
  · rcases hE with ⟨h, _⟩ | ⟨h, _⟩ | ⟨_, b, off, cap, cc, hb, hh, hr, hoff, hcap, hR⟩
    · cases h
    · exact absurd h hl
    · simp only at hR hcap hoff hh
      have hnb : ∀ j, OK (Cx.of W ok0 (Own [(0, ⟨false, 1, l⟩)] ow)) W [(0, ⟨false, 1, l⟩)] ow j → j ≠ b ∧ j < W.heap.size := by
        rintro j ⟨h1, h2⟩
        exact ⟨by rintro rfl; exact h2 ⟨0, _, rfl, hb⟩, h1.2⟩
      obtain ⟨ds, e1, e2⟩ := El.of hR hS
      have hds : ds ≠ [] := by rintro rfl; exact hl (by simpa using e1.symm)
      haveI : Inhabited (El W (OK (Cx.of W ok0 (Own [(0, ⟨false, 1, l⟩)] ow)) W [(0, ⟨false, 1, l⟩)] ow) S) := ⟨ds.head hds⟩
      have hdl : ds.length = l.length := by have := congrArg List.length e1; simpa using this
      have hH : Holds (fun x : El W (OK (Cx.of W ok0 (Own [(0, ⟨false, 1, l⟩)] ow)) W [(0, ⟨false, 1, l⟩)] ow) S => x.1.2) W b off ds.toArray := by
        intro j hj
        have hj' : j < ds.length := by simpa using hj
        obtain ⟨t, hr⟩ := hr
        have h3 : cc[off + j]? = some (ds[j]).1.2 := by
          have h4 : ((cc.drop off).take (l.length * 1))[j]? = (ds.map (·.1.2))[j]? := by rw [e2]
          rw [List.getElem?_take_of_lt (by omega), List.getElem?_drop] at h4
          rw [h4]; simp [List.getElem?_eq_getElem hj']
        refine ⟨?_, ?_⟩
        · simp only [World.cell?, hr, List.getElem?_toArray, h3]
          rw [getElem!_pos _ j hj]; simp
        · simp [World.frozen?, hr]
      have eg := (hc _ _ (ds.head hds).2.1 (ds.head hds).2.1).1
      have hcmp : CmpLays1 P g vs.toArray (fun x : El W (OK (Cx.of W ok0 (Own [(0, ⟨false, 1, l⟩)] ow)) W [(0, ⟨false, 1, l⟩)] ow) S => x.1.2) (fun x y => c x.1.1 y.1.1) b off ds.toArray.size W := by
        intro m os dk hs x y
        have hf := FOk.inSort (hc _ _ x.2.1 y.2.1) (vals := x.1.2 :: y.1.2 :: vs) b off m (dk.map fun x => x.1.2) os hnb (by
          simp only [RepAs, RepA, RepV]
          rw [if_neg (by rw [x.2.2.1]; simp), if_neg (by rw [y.2.2.1]; simp)]
          exact ⟨x.2.2.2, y.2.2.2, hcaps⟩)
        unfold sortWorld
        rw [putRow_map]
        have e3 : (#[x.1.2, y.1.2] ++ vs.toArray : Array Value) = (x.1.2 :: y.1.2 :: vs).toArray := by simp
        rw [e3]
        exact hf
      have hsort := Any.slices_SortFunc L _ (fun x => RepC.oneCell x.2.2.2 x.2.2.1) _
        ⟨fun x => by simpa [ltOf] using hO1 _ x.2.1, fun x y z h1 h2 => by simp only [ltOf, decide_eq_true_eq] at *; exact hO2 _ _ _ x.2.1 y.2.1 z.2.1 h1 h2, fun x y z h1 h2 => by simp only [ltOf, decide_eq_false_iff_not] at *; exact hO3 _ _ _ x.2.1 y.2.1 z.2.1 h1 h2⟩
        g vs.toArray b off cap ds.toArray W eg hcmp hH (hm.lt 0 _ b rfl hb).1 (by simpa [hdl] using hlen)
      rw [show (.slice (some ⟨b, off, none⟩) ds.toArray.size cap : Value) = hdr 0 by rw [hh]; simp [hdl]] at hsort
      refine hsort.mono ?_
      rintro e w' ⟨rfl, d', n, os, hp, hs, rfl⟩
      obtain ⟨hp1, _, hp2⟩ := hp
      have hperm : d'.toList.Perm ds := by
        have := hp2
        simp only [List.size_toArray] at hp1
        simp only [List.size_toArray, Array.toList_extract, List.extract_eq_take_drop, List.drop_zero, Nat.sub_zero, List.take_length] at this
        rwa [List.take_of_length_le (by simp [hp1])] at this
      have hm' : d'.toList.map (·.1.1) = l' := by
        refine huniq _ (by have := hperm.map (fun x => x.1.1); rwa [e1] at this) ?_
        rw [List.pairwise_map, List.pairwise_iff_getElem]
        intro i j hi hj hij
        have h3 := hs i j (Nat.zero_le _) hij (by rw [← hp1]; simpa using hj)
        rw [getElem!_pos d' j (by simpa using hj), getElem!_pos d' i (by simpa using hi)] at h3
        simpa [ltOf] using h3
      have hlen' : l'.length = l.length := by have h8 := hperm.length_eq; have h9 := congrArg List.length hm'; simp only [List.length_map] at h9; omega
      refine ⟨_, hdr, ow, rfl, ?_, by simp only [RepA]; exact ⟨[], rfl, by simp [RepAs]⟩, hkeep⟩
      unfold sortWorld
      rw [putRow_map]
      refine sw_mem (by simp) hm hb hh hr hoff hcap n _ os hlen' (by rw [← hm']; simp) ?_
      rw [← hm', Array.toList_map]
      exact El.rep _

theorem flat_get {k : Nat} (hk : 0 < k) : ∀ (ls : List (List Value)) (t : Nat), (∀ x ∈ ls, x.length = k) → ls.flatten[t]? = (ls[t / k]?).bind (·[t % k]?)
  | [], t, _ => by simp
  | x :: ls, t, h => by
    have hx := h x (List.mem_cons_self ..)
    rw [List.flatten_cons]
    by_cases ht : t < k
    · rw [List.getElem?_append_left (by omega), Nat.div_eq_of_lt ht, Nat.mod_eq_of_lt ht]; simp
    · obtain ⟨u, rfl⟩ : ∃ u, t = k + u := ⟨t - k, by omega⟩
      rw [List.getElem?_append_right (by omega), Nat.add_div_left _ hk, Nat.add_mod_left, hx, Nat.add_sub_cancel_left, flat_get hk ls u (fun y hy => h y (List.mem_cons_of_mem _ hy))]
      simp

theorem flatK_list {α : Type} [Inhabited α] (enc : α → List Value) (k : Nat) (h0 : 0 < k) (hk : ∀ x, (enc x).length = k) (d : Array α) : (flatK enc k d).toList = (d.toList.map enc).flatten := by
  apply List.ext_getElem?
  intro t
  rw [flat_get h0 _ _ (by intro x hx; obtain ⟨y, _, rfl⟩ := List.mem_map.1 hx; exact hk y)]
  by_cases ht : t < d.size * k
  · have hq : t / k < d.size := Nat.div_lt_of_lt_mul (by rw [Nat.mul_comm]; exact ht)
    have hm : t % k < (enc d[t / k]!).length := by rw [hk]; exact Nat.mod_lt _ h0
    have h1 := get_flatK enc k d t ht
    rw [getElem!_pos (flatK enc k d) t (by simpa using ht), getElem!_pos (enc d[t / k]!) _ hm] at h1
    rw [Array.getElem?_toList, Array.getElem?_eq_getElem (by simpa using ht), h1]
    rw [List.getElem?_map, Array.getElem?_toList, Array.getElem?_eq_getElem hq]
    simp only [Option.map_some, Option.bind_some]
    have hz : d[t / k]! = d[t / k] := getElem!_pos d _ hq
    rw [← hz, List.getElem?_eq_getElem hm]
  · have hq : ¬ t / k < d.size := fun h => ht (by have := (Nat.div_lt_iff_lt_mul h0).1 h; exact this)
    rw [Array.getElem?_toList, Array.getElem?_eq_none (by simpa using Nat.le_of_not_lt ht), List.getElem?_map, Array.getElem?_toList, Array.getElem?_eq_none (by omega)]
    rfl

theorem RepL.oneCells {W : World} {ok : Nat → Prop} : ∀ {cs : List PV} {vs : List Value}, RepL W ok 1 cs vs → (∀ p ∈ cs, p.isSt = false) → ∀ v ∈ vs, v.oneCell' = true
  | [], _, h, _, v, hv => by cases h; cases hv
  | p :: cs, _, h, hp, v, hv => by
    cases h with
    | cons h1 h2 h3 =>
      obtain ⟨u, rfl⟩ := List.length_eq_one_iff.1 h1
      rcases List.mem_append.1 hv with h | h
      · cases List.mem_singleton.1 h; exact RepC.oneCell h2 (hp p (List.mem_cons_self ..))
      · exact RepL.oneCells h3 (fun q hq => hp q (List.mem_cons_of_mem _ hq)) v h

section sortK
variable {W : World} {ok : Nat → Prop} {S : PV → Prop} {k : Nat}

def ElK (W : World) (ok : Nat → Prop) (S : PV → Prop) (k : Nat) : Type := { x : PV × List Value // S x.1 ∧ x.1.isSt = true ∧ x.2.length = k ∧ RepC W ok x.1 x.2 }

theorem ElK.of : ∀ {l : List PV} {vs : List Value}, RepL W ok k l vs → (∀ p ∈ l, S p ∧ p.isSt = true) → ∃ ds : List (ElK W ok S k), ds.map (·.1.1) = l ∧ (ds.map (·.1.2)).flatten = vs
  | [], _, h, _ => by cases h; exact ⟨[], rfl, rfl⟩
  | p :: l, _, h, hs => by
    cases h with
    | cons h1 h2 h3 =>
      rename_i us ws
      obtain ⟨ds, e1, e2⟩ := ElK.of h3 (fun q hq => hs q (List.mem_cons_of_mem _ hq))
      have hp := hs p (List.mem_cons_self ..)
      exact ⟨⟨(p, us), hp.1, hp.2, h1, h2⟩ :: ds, congrArg (p :: ·) e1, congrArg (us ++ ·) e2⟩

theorem ElK.rep : ∀ (es : List (ElK W ok S k)), RepL W ok k (es.map (·.1.1)) (es.map (·.1.2)).flatten
  | [] => .nil
  | x :: es => RepL.cons (vs := x.1.2) x.2.2.2.1 x.2.2.2.2 (ElK.rep es)
end sortK

/-- slices.SortFunc at structs: l' is the one order of l that there is. -/
theorem FOk.sortK {P : Program} {ρ : Ren} (L : SlLaysF0.n6 P ρ) {k : Nat} (h0 : 0 < k) (aE : ∀ w, (isAgg (ρ.t 24)).run P w = .ok true w) (zE : ∀ w, (Go.sizeOf (ρ.t 24)).run P w = .ok k w) {g : FuncId} {caps : List AV} (S : PV → Prop) (c : PV → PV → Int) {l l' : List PV}
    (hS : ∀ p ∈ l, S p ∧ p.isSt = true)
    (hc : ∀ p q, S p → S q → @FOk instInhabitedProp P g (.v p :: .v q :: caps) [] (.v (.w (.int .i64 (c p q)))) [])
    (hO1 : ∀ p, S p → ¬ c p p < 0) (hO2 : ∀ p q r, S p → S q → S r → c p q < 0 → c q r < 0 → c p r < 0) (hO3 : ∀ p q r, S p → S q → S r → ¬ c p q < 0 → ¬ c q r < 0 → ¬ c p r < 0)
    (huniq : ∀ m : List PV, m.Perm l → m.Pairwise (fun p q => ¬ c q p < 0) → m = l') (hlen : l.length < 4611686018427387904) :
    FOk P (ρ.f 6) [.h 0, .fn g caps] [(0, ⟨false, k, l⟩)] (.tup []) [(0, ⟨false, k, l'⟩)] := by
  refine ⟨L.f6.enters rfl, ?_⟩
  intro W ok0 vals hdr ow hm hv
  obtain ⟨v0, v1, rfl, h0, vs, rfl, hcaps⟩ : ∃ v0 v1, vals = [v0, v1] ∧ v0 = hdr 0 ∧ ∃ vs : List Value, v1 = .func (.func g) #[] vs.toArray ∧ RepAs W (OK (Cx.of W ok0 (Own [(0, ⟨false, k, l⟩)] ow)) W [(0, ⟨false, k, l⟩)] ow) hdr [(0, ⟨false, k, l⟩)] caps vs := by
    match vals, hv with
    | [], hv => simp [RepAs] at hv
    | [_], hv => simp [RepAs] at hv
    | _ :: _ :: _ :: _, hv => simp [RepAs] at hv
    | [v0, v1], hv =>
      simp only [RepAs, RepA] at hv
      obtain ⟨q1, ⟨vs, q2, q3⟩, _⟩ := hv
      exact ⟨v0, v1, rfl, q1 _ rfl, vs, q2, q3⟩
  subst h0
  have hkeep : ∀ i e e', find [(0, (⟨false, k, l⟩ : Ent))] i = some e → find [(0, (⟨false, k, l'⟩ : Ent))] i = some e' → hdr i = hdr i ∧ e'.sz = e.sz := by
    intro i e e' h1 h2
    simp only [find] at h1 h2
    split at h1
    · rename_i hk; rw [if_pos hk] at h2; cases h1; cases h2; exact ⟨rfl, rfl⟩
    · cases h1
  have hE := (hm.ent 0 _ rfl).plain (by simp; omega)
  by_cases hl : l = []
  · subst hl
    have hl' : l' = [] := (huniq [] (.refl _) .nil).symm
    subst hl'
    obtain ⟨p, cap, hx⟩ : ∃ p cap, hdr 0 = .slice p 0 cap := by
      rcases hE with ⟨h, _⟩ | ⟨_, _, ao, hx⟩ | ⟨_, b, off, cap, cc, hb, hh, _⟩
      · cases h
      · exact ⟨ao, 0, hx⟩
      · exact ⟨_, cap, hh⟩
    have hcall := AnyF.slices_SortFunc_none (P := P) (ρ := ρ) L p cap (.func (.func g) #[] vs.toArray) W
    rw [← hx] at hcall
    refine hcall.mono ?_
    rintro e w' ⟨rfl, rfl⟩
    exact ⟨_, hdr, ow, rfl, hm, by simp only [RepA]; exact ⟨[], rfl, by simp [RepAs]⟩, hkeep⟩
  · rcases hE with ⟨h, _⟩ | ⟨h, _⟩ | ⟨_, b, off, cap, cc, hb, hh, hr, hoff, hcap, hR⟩
    · cases h
    · exact absurd h hl
    · simp only at hR hcap hoff hh
      have hnb : ∀ j, OK (Cx.of W ok0 (Own [(0, ⟨false, k, l⟩)] ow)) W [(0, ⟨false, k, l⟩)] ow j → j ≠ b ∧ j < W.heap.size := by
        rintro j ⟨h1, h2⟩
        exact ⟨by rintro rfl; exact h2 ⟨0, _, rfl, hb⟩, h1.2⟩
      obtain ⟨ds, e1, e2⟩ := ElK.of hR hS
      have hds : ds ≠ [] := by rintro rfl; exact hl (by simpa using e1.symm)
      haveI : Inhabited (ElK W (OK (Cx.of W ok0 (Own [(0, ⟨false, k, l⟩)] ow)) W [(0, ⟨false, k, l⟩)] ow) S k) := ⟨ds.head hds⟩
      have hdl : ds.length = l.length := by have := congrArg List.length e1; simpa using this
      have hkk : ∀ x : ElK W (OK (Cx.of W ok0 (Own [(0, ⟨false, k, l⟩)] ow)) W [(0, ⟨false, k, l⟩)] ow) S k, x.1.2.length = k := fun x => x.2.2.2.1
      have hfl : ∀ d : Array (ElK W (OK (Cx.of W ok0 (Own [(0, ⟨false, k, l⟩)] ow)) W [(0, ⟨false, k, l⟩)] ow) S k), (flatK (fun x : ElK W (OK (Cx.of W ok0 (Own [(0, ⟨false, k, l⟩)] ow)) W [(0, ⟨false, k, l⟩)] ow) S k => x.1.2) k d).toList = (d.toList.map (fun x => x.1.2)).flatten := flatK_list _ k h0 hkk
      have hH : HoldsK (fun x : ElK W (OK (Cx.of W ok0 (Own [(0, ⟨false, k, l⟩)] ow)) W [(0, ⟨false, k, l⟩)] ow) S k => x.1.2) k W b off ds.toArray := by
        intro j hj
        obtain ⟨t, hr⟩ := hr
        have hj' : j < l.length * k := by simpa [hdl] using hj
        have h3 : cc[off + j]? = some ((flatK (fun x : ElK W (OK (Cx.of W ok0 (Own [(0, ⟨false, k, l⟩)] ow)) W [(0, ⟨false, k, l⟩)] ow) S k => x.1.2) k ds.toArray)[j]!) := by
          have h4 : ((cc.drop off).take (l.length * k))[j]? = (flatK (fun x : ElK W (OK (Cx.of W ok0 (Own [(0, ⟨false, k, l⟩)] ow)) W [(0, ⟨false, k, l⟩)] ow) S k => x.1.2) k ds.toArray).toList[j]? := by rw [hfl]; simp only [e2]
          rw [List.getElem?_take_of_lt hj', List.getElem?_drop] at h4
          rw [h4, Array.getElem?_toList, getElem!_pos _ j hj, Array.getElem?_eq_getElem hj]
        refine ⟨?_, ?_⟩
        · simp only [World.cell?, hr, List.getElem?_toArray, h3]; rfl
        · simp [World.frozen?, hr]
      have eg := (hc _ _ (ds.head hds).2.1 (ds.head hds).2.1).1
      have hcmp : CmpLays P g vs.toArray (fun x : ElK W (OK (Cx.of W ok0 (Own [(0, ⟨false, k, l⟩)] ow)) W [(0, ⟨false, k, l⟩)] ow) S k => x.1.2) k (fun x y => c x.1.1 y.1.1) b off ds.toArray.size W := by
        intro m os dk hs x y
        have hf := FOk.inSort (hc _ _ x.2.1 y.2.1) (vals := .agg x.1.2.toArray :: .agg y.1.2.toArray :: vs) b off m (flatK (fun x : ElK W (OK (Cx.of W ok0 (Own [(0, ⟨false, k, l⟩)] ow)) W [(0, ⟨false, k, l⟩)] ow) S k => x.1.2) k dk) os hnb (by
          simp only [RepAs, RepA, RepV]
          rw [if_pos x.2.2.1, if_pos y.2.2.1]
          exact ⟨⟨_, rfl, x.2.2.2.2⟩, ⟨_, rfl, y.2.2.2.2⟩, hcaps⟩)
        have e3 : (#[.agg x.1.2.toArray, .agg y.1.2.toArray] ++ vs.toArray : Array Value) = (.agg x.1.2.toArray :: .agg y.1.2.toArray :: vs).toArray := by simp
        rw [e3]
        exact hf
      have hsort := AnyQ.slices_SortFunc (P := P) (ρ := ρ) L k aE zE _ hkk (fun x => by
          obtain ⟨⟨p, us⟩, _, hst, _, hx⟩ := x
          cases hx with
          | st h1 h2 => exact RepL.oneCells h2 h1
          | w _ => simp at hst
          | nil => simp at hst
          | pt _ _ _ _ => simp at hst
          | cl _ _ => simp at hst
          | nls => simp at hst
          | if1 => simp at hst
          | ifS => simp at hst
          | sl _ _ _ _ _ => simp at hst) _
        ⟨fun x => by simpa [ltOf] using hO1 _ x.2.1, fun x y z h1 h2 => by simp only [ltOf, decide_eq_true_eq] at *; exact hO2 _ _ _ x.2.1 y.2.1 z.2.1 h1 h2, fun x y z h1 h2 => by simp only [ltOf, decide_eq_false_iff_not] at *; exact hO3 _ _ _ x.2.1 y.2.1 z.2.1 h1 h2⟩
        g vs.toArray b off cap ds.toArray W eg hcmp hH (hm.lt 0 _ b rfl hb).1 (by simpa [hdl] using hlen)
      rw [show (.slice (some ⟨b, off, none⟩) ds.toArray.size cap : Value) = hdr 0 by rw [hh]; simp [hdl]] at hsort
      refine hsort.mono ?_
      rintro e w' ⟨rfl, d', n, os, hp, hs, rfl⟩
      obtain ⟨hp1, _, hp2⟩ := hp
      have hperm : d'.toList.Perm ds := by
        have := hp2
        simp only [List.size_toArray] at hp1
        simp only [List.size_toArray, Array.toList_extract, List.extract_eq_take_drop, List.drop_zero, Nat.sub_zero, List.take_length] at this
        rwa [List.take_of_length_le (by simp [hp1])] at this
      have hm' : d'.toList.map (·.1.1) = l' := by
        refine huniq _ (by have := hperm.map (fun x => x.1.1); rwa [e1] at this) ?_
        rw [List.pairwise_map, List.pairwise_iff_getElem]
        intro i j hi hj hij
        have h3 := hs i j (Nat.zero_le _) hij (by rw [← hp1]; simpa using hj)
        rw [getElem!_pos d' j (by simpa using hj), getElem!_pos d' i (by simpa using hi)] at h3
        simpa [ltOf] using h3
      have hlen' : l'.length = l.length := by have h8 := hperm.length_eq; have h9 := congrArg List.length hm'; simp only [List.length_map] at h9; omega
      refine ⟨_, hdr, ow, rfl, ?_, by simp only [RepA]; exact ⟨[], rfl, by simp [RepAs]⟩, hkeep⟩
      refine sw_mem (by omega) hm hb hh hr hoff hcap n _ os hlen' (by rw [← hm']; simp) ?_
      rw [← hm', hfl]
      exact ElK.rep _

end Go.AM

/- Texts as lists of bytes, words as lists of texts. -/
import Derived.Test.YtlhpjeckaepdlaaAMY
import Derived.Lib.Strings
import Derived.OpenShut
import Derived.ProofKit
import Derived.DataElems
import Derived.SizedLaws
import Derived.WalkKit
import Derived.ShutString
import Derived.ChangeOld
set_option linter.all false
namespace Go.AM
open Go
variable [dr : Inhabited Prop]

abbrev Bs := List UInt8

/-- A text. -/
def bs (l : Bs) : ByteArray := ⟨l.toArray⟩

theorem bs_size (l : Bs) : (bs l).size = l.length := by simp [bs, ByteArray.size]
theorem bs_data (l : Bs) : (bs l).data = l.toArray := rfl
theorem bs_list (l : Bs) : (bs l).data.toList = l := by simp [bs]
theorem bs_mk (l : Bs) : (⟨l.toArray⟩ : ByteArray) = bs l := rfl
theorem bs_inj {a b : Bs} : bs a = bs b ↔ a = b := by simp [bs]
theorem bs_toList (l : Bs) : (bs l).toList = l := by rw [Lib.toList_data, bs_list]
theorem bs_extract (l : Bs) (i j : Nat) : (bs l).extract i j = bs ((l.drop i).take (j - i)) := by
  rw [Lib.extract_eq, bs_list]; rfl
theorem bs_append (a b : Bs) : bs a ++ bs b = bs (a ++ b) := by
  apply ByteArray.ext
  simp [bs]
theorem bs_all (b : ByteArray) : ∃ l, b = bs l := ⟨b.data.toList, by simp [bs]⟩
/-- The order of texts. -/
def ltB (a b : Bs) : Bool := Op.bytesLess a b
theorem slt_bs (a b : Bs) : slt (bs a) (bs b) = ltB a b := by simp [slt, bs_toList, ltB]

abbrev AV.I (n : Int) : AV := .v (.w (.int .i64 n))
abbrev AV.B (b : Bool) : AV := .v (.w (.bool b))
abbrev AV.S (l : Bs) : AV := .v (.w (.string (bs l)))
/-- A word as a value. -/
def PV.word (w : List Bs) : PV := .sl 1 (w.map fun s => .w (.string (bs s)))

theorem ci_le {n m : Nat} : ((no_index (OfNat.ofNat n) : Int) ≤ (m : Int)) ↔ (OfNat.ofNat n : Nat) ≤ m := by
  show (Int.ofNat n ≤ (m : Int)) ↔ n ≤ m; exact Int.ofNat_le
theorem ci_le2 {n m : Nat} : ((m : Int) ≤ (no_index (OfNat.ofNat n) : Int)) ↔ m ≤ (OfNat.ofNat n : Nat) := by
  show ((m : Int) ≤ Int.ofNat n) ↔ m ≤ n; exact Int.ofNat_le
theorem ci_lt {n m : Nat} : ((no_index (OfNat.ofNat n) : Int) < (m : Int)) ↔ (OfNat.ofNat n : Nat) < m := by
  show (Int.ofNat n < (m : Int)) ↔ n < m; exact Int.ofNat_lt
theorem ci_lt2 {n m : Nat} : ((m : Int) < (no_index (OfNat.ofNat n) : Int)) ↔ m < (OfNat.ofNat n : Nat) := by
  show ((m : Int) < Int.ofNat n) ↔ m < n; exact Int.ofNat_lt
theorem ci_eq {n m : Nat} : ((m : Int) = (no_index (OfNat.ofNat n) : Int)) ↔ m = (OfNat.ofNat n : Nat) := by
  show ((m : Int) = Int.ofNat n) ↔ m = n; exact Int.ofNat_inj
theorem ci_lnat {m : Nat} : ((OfNat.ofNat m : Nat) : Int) = (OfNat.ofNat m : Int) := rfl

/-! rows, read up to a place -/
theorem take_all {α : Type} (p : α → Bool) (l : List α) {i : Nat} (h : i < l.length) (hi : (l.take i).all p = true) (hc : p l[i] = true) : (l.take (i + 1)).all p = true := by
  rw [List.take_succ_eq_append_getElem h, List.all_append, hi]; simp [hc]
theorem all_no {α : Type} (p : α → Bool) (l : List α) {i : Nat} (h : i < l.length) (hc : p l[i] = false) : l.all p = false := by
  rw [List.all_eq_false]; exact ⟨l[i], List.getElem_mem h, by simp [hc]⟩
theorem take_end {α : Type} (p : α → Bool) (l : List α) {i : Nat} (hi : i ≤ l.length) (h : ¬ i < l.length) (ha : (l.take i).all p = true) : l.all p = true := by
  rwa [List.take_of_length_le (by omega)] at ha
theorem any_yes {α : Type} (p : α → Bool) (l : List α) {i : Nat} (h : i < l.length) (hc : p l[i] = true) : l.any p = true := by
  rw [List.any_eq_true]; exact ⟨l[i], List.getElem_mem h, hc⟩
theorem take_none {α : Type} (p : α → Bool) (l : List α) {i : Nat} (h : i < l.length) (hi : (l.take i).any p = false) (hc : p l[i] = false) : (l.take (i + 1)).any p = false := by
  rw [List.take_succ_eq_append_getElem h, List.any_append, hi]; simp [hc]
theorem none_end {α : Type} (p : α → Bool) (l : List α) {i : Nat} (hi : i ≤ l.length) (h : ¬ i < l.length) (ha : (l.take i).any p = false) : l.any p = false := by
  rwa [List.take_of_length_le (by omega)] at ha

theorem cellRd0 {x : PV} {cs : List PV} {sz : Nat} : cellRd (x :: cs) false 0 sz = some x := rfl
theorem cellRd1 {x y : PV} {cs : List PV} {sz : Nat} : cellRd (x :: y :: cs) false 1 sz = some y := rfl
theorem cellRd2 {x y z : PV} {cs : List PV} {sz : Nat} : cellRd (x :: y :: z :: cs) false 2 sz = some z := rfl
theorem cellRd3 {x y z u : PV} {cs : List PV} {sz : Nat} : cellRd (x :: y :: z :: u :: cs) false 3 sz = some u := rfl
theorem cellRd4 {x y z u v : PV} {cs : List PV} {sz : Nat} : cellRd (x :: y :: z :: u :: v :: cs) false 4 sz = some v := rfl
attribute [simp high] cellRd0 cellRd1 cellRd2 cellRd3 cellRd4
attribute [simp high] List.getElem?_cons_zero List.getElem?_cons_succ
attribute [simp] ci_le ci_le2 ci_lt ci_lt2 ci_eq
attribute [simp] PV.word bs_size bs_list bs_mk bs_inj bs_toList bs_extract bs_append slt_bs
end Go.AM
/- How an argument of a statement is opened: what the statement reads as data is a value of the walk. -/
set_option linter.all false
namespace Go.AM
open Go
variable [dr : Inhabited Prop]

/-- Readings of type t are values f a, with C a. -/
def Opn {α : Type} (P : Program) (t : TypeId) (f : α → PV) (C : α → Prop) : Prop :=
  ∀ (H : Type) (enc : TypeId × Value → H) (w : World) (held : Bool) (fuel : Nat) (cs : List Value) (x : DataW H × List MemPlace),
    DataW.trod enc P w 0 (fun _ => true) held fuel t cs = some x → (∀ n ∈ x.1.weights P t, n ≤ reachBytes) → ∃ a, RepC w (· < w.heap.size) (f a) cs ∧ C a

theorem opn_int {P : Program} {t : TypeId} {k : IntKind} (ht : P.underlying t = some (.int k)) : Opn P t (fun n : Int => .w (.int k n)) (fun n => (Lit.int k n).wf = true) := by
  intro H enc w held fuel cs x hx _
  obtain ⟨n, rfl, _, hw⟩ := DataW.trod_int ht hx
  exact ⟨n, .w rfl, hw⟩

theorem opn_bool {P : Program} {t : TypeId} (ht : P.underlying t = some .bool) : Opn P t (fun b : Bool => .w (.bool b)) (fun _ => True) := by
  intro H enc w held fuel cs x hx _
  obtain ⟨n, rfl, _⟩ := DataW.trod_bool ht hx
  exact ⟨n, .w rfl, trivial⟩

theorem opn_str {P : Program} {t : TypeId} (ht : P.underlying t = some .string) : Opn P t (fun s : Bs => .w (.string (bs s))) (fun s => s.length ≤ 140737488351232) := by
  intro H enc w held fuel cs x hx hw
  obtain ⟨s, rfl, rfl, _⟩ := DataW.trod_string ht hx
  obtain ⟨l, rfl⟩ := bs_all s
  refine ⟨l, .w rfl, ?_⟩
  have := hw (bs l).data.toList.length (by simp [DataW.weights])
  rw [bs_list] at this
  exact this

theorem weightsAll_mem {H : Type} {P : Program} {e : TypeId} : ∀ {ds : List (DataW H)} {d : DataW H}, d ∈ ds → ∀ n ∈ d.weights P e, n ∈ DataW.weightsAll P e ds
  | [], _, h, _, _ => by cases h
  | d0 :: ds, d, h, n, hn => by
    rw [DataW.weightsAll]
    rcases List.mem_cons.1 h with rfl | h
    · exact List.mem_append_left _ hn
    · exact List.mem_append_right _ (weightsAll_mem h n hn)

theorem cells_get {w : World} {base : Nat} {a : Addr} {n : Nat} {cs : List Value} (h : w.cells? base a n = some cs) :
    cs.length = n ∧ ∀ i u, cs[i]? = some u → w.cell? (a.add i) = some u := by
  unfold World.cells? at h
  split at h
  · refine ⟨by simpa using mapM_some_length h, fun i u hu => ?_⟩
    have hl := mapM_some_length h
    have hi : i < n := by have := (List.getElem?_eq_some_iff.1 hu).1; simp at hl; omega
    have := mapM_some_get h i i (by simp [hi])
    exact this.trans hu
  · cases h

/-- A cell that is read lies in a block of cells. -/
theorem cell_blk {w : World} {a : Addr} {v : Value} (h : w.cell? a = some v) : ∃ c, World.row w a.block c ∧ a.spot = none ∧ c[a.off]? = some v ∧ a.block < w.heap.size := by
  unfold World.cell? at h
  split at h
  · rename_i c t fr hc
    split at h
    · cases h
    · rename_i hs
      refine ⟨c.toList, ⟨t, fr, by simpa using hc⟩, by simpa using hs, by simpa using h, ?_⟩
      rcases Nat.lt_or_ge a.block w.heap.size with hl | hl
      · exact hl
      · rw [Array.getElem?_eq_none (by omega)] at hc; cases hc
  · cases h

theorem opn_slice {α : Type} {P : Program} {t e b sz : Nat} {f : α → PV} {C : α → Prop} (ht : P.underlying t = some (.slice e)) (hz : P.cellsOf e = sz) (hs : sz ≠ 0) (hbb : P.bytesOf e = b) (h : Opn P e f C) :
    Opn P t (fun l : List α => .sl sz (l.map f)) (fun l => l.length * b ≤ 140737488351232 ∧ ∀ x ∈ l, C x) := by
  subst hbb hz
  intro H enc w held fuel cs x hx hw
  rcases DataW.trod_slice ht hx with ⟨rfl, rfl⟩ | ⟨a, len, cap, elems, rest, n, rfl, rfl, rfl, _, hl, hm, hlen, hel, hsp, _⟩
  · exact ⟨[], .nil, by simp, by simp⟩
  obtain ⟨hrl, hrest⟩ := hsp rfl
  have hall : ∀ i, i < cap → ∀ j, j < P.cellsOf e → ∃ v, w.cell? (a.add (i * P.cellsOf e + j)) = some v := by
    intro i hi j hj
    have : ∃ c, w.cells? 0 (a.add (i * P.cellsOf e)) (P.cellsOf e) = some c := by
      by_cases h1 : i < len
      · have h0 := hel i h1
        rw [List.getElem?_eq_getElem (by omega : i < elems.length), Option.bind_eq_some_iff] at h0
        obtain ⟨c, hc, _⟩ := h0; exact ⟨c, hc⟩
      · have h0 := hrest (i - len) (by omega)
        rw [List.getElem?_eq_getElem (by omega : i - len < rest.length), Option.bind_eq_some_iff, show len + (i - len) = i by omega] at h0
        obtain ⟨c, hc, _⟩ := h0; exact ⟨c, hc⟩
    obtain ⟨c, hc⟩ := this
    obtain ⟨h1, h2⟩ := cells_get hc
    have := h2 j c[j] (by rw [List.getElem?_eq_getElem])
    rw [Addr.add_add] at this
    exact ⟨_, this⟩
  have each : ∀ i, i < len → ∃ y : α, ∃ c, c.length = P.cellsOf e ∧ RepC w (· < w.heap.size) (f y) c ∧ (∀ j u, c[j]? = some u → w.cell? (a.add (i * P.cellsOf e + j)) = some u) ∧ C y := by
    intro i hi
    have h0 := hel i hi
    have hi' : i < elems.length := by omega
    rw [List.getElem?_eq_getElem hi', Option.bind_eq_some_iff] at h0
    obtain ⟨c, hc, hd⟩ := h0
    obtain ⟨hcl, hcc⟩ := cells_get hc
    obtain ⟨y, hk, hb⟩ := h H enc w held n c _ hd (fun m hmm => hw m (by
      rw [DataW.weights, ht]
      refine List.mem_cons_of_mem _ (List.mem_append_left _ (weightsAll_mem (d := elems[i].1) (List.mem_map.2 ⟨elems[i], List.getElem_mem hi', rfl⟩) m hmm))))
    refine ⟨y, c, hcl, hk, fun j u hj => ?_, hb⟩
    have := hcc j u hj
    rwa [Addr.add_add] at this
  rcases Nat.eq_zero_or_pos cap with hcap | hcap
  · subst hcap
    obtain rfl : len = 0 := by omega
    exact ⟨[], .nil, by simp, by simp⟩
  obtain ⟨v0, hv0⟩ := hall (cap - 1) (by omega) (P.cellsOf e - 1) (by omega)
  obtain ⟨v1, hv1⟩ := hall 0 hcap 0 (by omega)
  obtain ⟨c0, hrow, hspot, hv1', hlt⟩ := cell_blk (by simpa [Addr.add] using hv1)
  obtain ⟨blk, off, spot⟩ := a
  simp only at hspot hlt hv1' hrow
  subst hspot
  have hcell : ∀ k v, w.cell? ((⟨blk, off, none⟩ : Addr).add k) = some v → c0[off + k]? = some v := by
    intro k v hk
    have hb' : ((⟨blk, off, none⟩ : Addr).add k) = ⟨blk, off + k, none⟩ := by
      unfold Addr.add; split
      · rename_i h0; subst h0; rfl
      · rfl
    rw [hb'] at hk
    obtain ⟨c1, hr1, _, h3, _⟩ := cell_blk hk
    obtain ⟨t1, f1, q1⟩ := hr1
    obtain ⟨t0, f0, q0⟩ := hrow
    simp only at q1 h3
    rw [q0] at q1
    have : c0 = c1 := by simpa using congrArg (fun o => match o with | some (Obj.cells c _ _) => c.toList | _ => []) q1
    rw [this]; exact h3
  have hlast := hcell _ _ hv0
  have hbound : off + cap * P.cellsOf e ≤ c0.length := by
    have h1 := (List.getElem?_eq_some_iff.1 hlast).1
    have h2 : (cap - 1) * P.cellsOf e + P.cellsOf e = cap * P.cellsOf e := by
      rw [← Nat.succ_mul]; congr 1; omega
    have h3 : 0 < P.cellsOf e := by omega
    omega
  have build : ∀ m, m ≤ len → ∃ l : List α, l.length = m ∧ (∀ y ∈ l, C y) ∧ RepL w (· < w.heap.size) (P.cellsOf e) (l.map f) ((c0.drop off).take (m * P.cellsOf e)) := by
    intro m
    induction m with
    | zero => intro _; exact ⟨[], rfl, by simp, by simpa using RepL.nil⟩
    | succ m ih =>
      intro hm1
      obtain ⟨l, h1, h2, h3⟩ := ih (by omega)
      obtain ⟨y, c, g1, g2, g3, g4⟩ := each m (by omega)
      refine ⟨l ++ [y], by simp [h1], ?_, ?_⟩
      · intro z hz
        rcases List.mem_append.1 hz with hz | hz
        · exact h2 z hz
        · simp at hz; subst hz; exact g4
      · rw [List.map_append]
        have e1 : (c0.drop off).take ((m + 1) * P.cellsOf e) = (c0.drop off).take (m * P.cellsOf e) ++ c := by
          rw [Nat.succ_mul, List.take_add]
          congr 1
          apply List.ext_getElem?
          intro j
          rw [List.getElem?_take, List.getElem?_drop, List.getElem?_drop]
          by_cases hj : j < P.cellsOf e
          · rw [if_pos hj]
            have hj' : j < c.length := by omega
            have := hcell _ _ (g3 j c[j] (by rw [List.getElem?_eq_getElem]))
            rw [this, List.getElem?_eq_getElem hj']
          · rw [if_neg hj, List.getElem?_eq_none (by omega)]
        rw [e1]
        refine h3.append ?_
        have := RepL.cons g1 g2 RepL.nil
        simpa using this
  obtain ⟨l, h1, h2, h3⟩ := build len (Nat.le_refl _)
  refine ⟨l, ?_, ?_, h2⟩
  · have hl' : (l.map f).length = len := by simp [h1]
    rw [← hl'] at h3 ⊢
    exact RepC.sl (b := blk) (off := off) (cap := cap) (c := c0) hlt hrow hbound (by omega) h3
  · have := hw ((elems.length + rest.length) * P.bytesOf e) (by rw [DataW.weights, ht]; simp)
    rw [h1, ← hlen]
    exact Nat.le_trans (Nat.mul_le_mul_right _ (Nat.le_add_right _ _)) this

/-! ### structs of one-cell fields, arrays of one-cell elements -/
def OpnR {α : Type} (P : Program) (ts : List TypeId) (f : α → List PV) (C : α → Prop) : Prop :=
  ∀ (H : Type) (enc : TypeId × Value → H) (w : World) (held : Bool) (fuel : Nat) (cs : List Value) (xs : List (DataW H × List MemPlace)),
    cs.length = ts.length → xs.length = ts.length → (∀ (i : Nat) (t : TypeId), ts[i]? = some t → DataW.trod enc P w 0 (fun _ => true) held fuel t ((cs.drop i).take 1) = xs[i]?) →
    (∀ (i : Nat) (t : TypeId) x, ts[i]? = some t → xs[i]? = some x → ∀ n ∈ x.1.weights P t, n ≤ reachBytes) → ∃ a, RepL w (· < w.heap.size) 1 (f a) cs ∧ (∀ p ∈ f a, p.isSt = false) ∧ C a

theorem opnR_nil {P : Program} : OpnR P [] (fun _ : Unit => []) (fun _ => True) := by
  intro H enc w held fuel cs xs h1 h2 h3 h4
  obtain rfl : cs = [] := by simpa using h1
  exact ⟨(), .nil, by simp, trivial⟩

theorem opnR_cons {α β : Type} {P : Program} {t : TypeId} {ts : List TypeId} {f : α → PV} {C : α → Prop} {g : β → List PV} {D : β → Prop} (hf : ∀ a, (f a).isSt = false) (h : Opn P t f C) (hr : OpnR P ts g D) :
    OpnR P (t :: ts) (fun q : α × β => f q.1 :: g q.2) (fun q => C q.1 ∧ D q.2) := by
  intro H enc w held fuel cs xs h1 h2 h3 h4
  cases cs with
  | nil => simp at h1
  | cons c cs =>
    cases xs with
    | nil => simp at h2
    | cons x xs =>
      have h0 := h3 0 t rfl
      simp at h0
      obtain ⟨a, q1, q2⟩ := h H enc w held fuel [c] x h0 (h4 0 t x rfl rfl)
      obtain ⟨b, g1, g2, g3⟩ := hr H enc w held fuel cs xs (by simpa using h1) (by simpa using h2) (fun i t' ht' => by simpa using h3 (i + 1) t' (by simpa using ht')) (fun i t' x' a1 a2 => h4 (i + 1) t' x' (by simpa using a1) (by simpa using a2))
      refine ⟨(a, b), ?_, ?_, q2, g3⟩
      · exact RepL.cons (vs := [c]) rfl q1 g1
      · intro p hp
        rcases List.mem_cons.1 hp with rfl | hp
        · exact hf a
        · exact g2 p hp

theorem opn_struct {α : Type} {P : Program} {t : TypeId} {fs : Array Field} {ts : List TypeId} {f : α → List PV} {C : α → Prop} (ht : P.underlying t = some (.struct fs)) (hts : fs.toList.map (·.type) = ts)
    (hoff : fs.toList.map (·.offset) = List.range ts.length) (hsz : P.cellsOf t = ts.length) (h1 : ∀ t' ∈ ts, P.cellsOf t' = 1) (h : OpnR P ts f C) : Opn P t (fun a => .st (f a)) C := by
  intro H enc w held fuel cs x hx hw
  obtain ⟨xs, n, rfl, rfl, hl, hxl, hel⟩ := DataW.trod_struct ht hx
  have hfl : fs.size = ts.length := by rw [← hts]; simp
  have hget : ∀ (i : Nat) (t' : TypeId), ts[i]? = some t' → ∃ f', fs[i]? = some f' ∧ f'.type = t' ∧ f'.offset = i := by
    intro i t' hi
    rw [← hts, List.getElem?_map, Option.map_eq_some_iff] at hi
    obtain ⟨f', hf', rfl⟩ := hi
    refine ⟨f', by simpa using hf', rfl, ?_⟩
    have := congrArg (fun l => l[i]?) hoff
    simp only [List.getElem?_map, hf', Option.map_some] at this
    have hlt : i < ts.length := by have := (List.getElem?_eq_some_iff.1 hf').1; simp at this; omega
    rw [List.getElem?_range hlt] at this
    exact Option.some.inj this
  obtain ⟨a, q1, q2, q3⟩ := h H enc w held n cs xs (by omega) (by omega) (fun i t' hi => by
      obtain ⟨f', g1, g2, g3⟩ := hget i t' hi
      have := hel i f' g1
      rw [g2, g3, h1 t' (List.mem_of_getElem? hi)] at this
      exact this) (fun i t' y hi hy m hm => hw m (by
      rw [DataW.weights, ht]
      refine DataW.weights_mem_each (j := i) (t := t') (d := y.1) ?_ ?_ m hm
      · rw [hts]; exact hi
      · rw [List.getElem?_map, hy]; rfl))
  exact ⟨a, .st q2 q1, q3⟩

theorem opn_array {α : Type} {P : Program} {t e : TypeId} {n : Nat} {f : α → List PV} {C : α → Prop} (ht : P.underlying t = some (.array n e)) (hsz : P.cellsOf t = n) (h1 : P.cellsOf e = 1) (h : OpnR P (List.replicate n e) f C) : Opn P t (fun a => .st (f a)) C := by
  intro H enc w held fuel cs x hx hw
  obtain ⟨xs, m, rfl, rfl, hl, hxl, hel⟩ := DataW.trod_array ht hx
  obtain ⟨a, q1, q2, q3⟩ := h H enc w held m cs xs (by simp; omega) (by simp; omega) (fun i t' hi => by
      obtain ⟨hlt, he⟩ := List.getElem?_eq_some_iff.1 hi
      simp at hlt he
      subst he
      have := hel i hlt
      rwa [h1, Nat.mul_one] at this) (fun i t' y hi hy k hk => hw k (by
      rw [DataW.weights, ht]
      obtain ⟨hlt, he⟩ := List.getElem?_eq_some_iff.1 hi
      simp at he
      subst he
      exact weightsAll_mem (d := y.1) (List.mem_map.2 ⟨y, List.mem_of_getElem? hy, rfl⟩) k hk))
  exact ⟨a, .st q2 q1, q3⟩

/-- An argument of the row, opened. -/
theorem open_argA {α : Type} {P : Program} {t : TypeId} {f : α → PV} {C : α → Prop} (h : Opn P t f C) {H : Type} {enc : TypeId × Value → H} {W : World} {held : Bool} {ts : List TypeId} {ds : List (DataW H)} {j : Nat} {v : Value} {dd : DataW H} {ps : List MemPlace}
    (hsz : (DataW.weightsEach P ts ds).all (· ≤ reachBytes) = true) (ht : ts[j]? = some t) (hd : ds[j]? = some dd) (ha : DataW.Trod enc P W 0 (fun _ => true) held t v dd ps) : ∃ a, RepC W (· < W.heap.size) (f a) v.cells.toList ∧ C a := by
  obtain ⟨fuel, hf⟩ := ha
  refine h H enc W held fuel _ _ hf (fun n hn => ?_)
  have := List.all_eq_true.1 hsz n (DataW.weights_mem_each ht hd n hn)
  simpa using this
end Go.AM
/- From the walk of a statement's function to the row. -/
set_option linter.all false
namespace Go.AM
open Go

theorem FOk.row {d : Inhabited Prop} {P : Program} {f : FuncId} {args : List AV} (h : FOk P f args [] (.v (.w (.bool true))) []) {W : World} {vals : List Value} (hv : RepAs W (· < W.heap.size) (fun _ => default) [] args vals) :
    Calls P f vals.toArray W fun e W' => e = .returned (.bool true) ∧ Go.RowKit.Below W.heap.size W W' := by
  have no : ∀ j, ¬ Own [] (fun _ => none) j := by rintro j ⟨id, e, h1, _⟩; simp [find] at h1
  refine (h.2 W (· < W.heap.size) vals (fun _ => default) (fun _ => none) ?_ ?_).mono fun e W' he => ?_
  · exact ⟨fun id e h => by simp [find] at h, fun id id' e e' b h => by simp [find] at h, fun id e b h => by simp [find] at h, Nat.le_refl _, fun _ _ _ => rfl, rfl, rfl, .refl _⟩
  · exact RepAs.mono (fun j hj => ⟨⟨⟨.inl hj, hj⟩, no j⟩, rfl⟩) args vals (fun id _ e' he' => by simp [find] at he') hv
  · obtain ⟨v, hdr', ow', rfl, hm, hr, _⟩ := he
    refine ⟨?_, hm.os, hm.tape, hm.output.1, hm.size, fun k hk => hm.frame k hk (fun ho => no k ho)⟩
    simp only [RepA] at hr
    rw [hr.wInv.1]

theorem RepV.ofSt {W : World} {ok : Nat → Prop} {p : PV} {cs : Array Value} (hp : p.isSt = true) (h : RepC W ok p cs.toList) : RepV W ok p (.agg cs) := by
  unfold RepV; rw [if_pos hp]; exact ⟨cs.toList, by simp, h⟩

theorem RepC.slV {W : World} {ok : Nat → Prop} {sz : Nat} {l : List PV} {cs : List Value} (h : RepC W ok (.sl sz l) cs) : ∃ a n c, cs = [.slice a n c] := by
  cases h
  · exact ⟨_, _, _, rfl⟩
  · exact ⟨_, _, _, rfl⟩

theorem okWide_array {P : Program} {w : World} {r : Reach} {base n : Nat} {t e : TypeId} {v : Value} (ht : P.underlying t = some (.array n e)) (h : Value.okWide P w r base t v) : ∃ cs, v = .agg cs ∧ cs.size = P.cellsOf t := by
  unfold Value.okWide at h
  rw [ht] at h
  obtain ⟨cs, h1, h2, _⟩ := h
  exact ⟨cs, h1, h2⟩
end Go.AM
/- Loops whose rows are found by their slots; more finishes; more reckoning of numbers. -/
set_option linter.all false
namespace Go.AM
open Go
variable [dr : Inhabited Prop]

/-- The rows to keep, by the slots that hold them. -/
def kpA (E : Env) : List (Nat × Nat) → List (Nat × Nat)
  | [] => []
  | (a, t) :: l => match find E t with
    | some (.h id) => (a, id) :: kpA E l
    | some (.ptr id _ _) => (a, id) :: kpA E l
    | _ => kpA E l
attribute [simp] kpA

section
variable {P : Program} {D : Fd} {G : Gl} {k : List MI} {s s' : St}
/-- A loop whose rounds begin at states st i; tg: the numbers of its rows, and the slots that hold them. -/
theorem Run.loopA {x : MC} {ι : Type} (tg : List (Nat × Nat)) (I : ι → Prop) (st : ι → St) (ms : ι → Nat) (i0 : ι) (hl : D.rs.length ≤ 4) (hle : Le G.nin (kpA s.env tg) s (st i0)) (h0 : I i0)
    (step : ∀ i, I i → (∀ (j : ι) (s' : St), I j → ms j < ms i → Le G.nin (kpA s'.env tg) s' (st j) → Run P D G (.inLoop x :: k) s') → Ex P D G 4000 .ctl (.code x :: .inLoop x :: k) (st i)) : Run P D G (.code (.loop x) :: k) s :=
  Run.loopI I st ms i0 _ hl hle h0 fun i hi ih => step i hi fun j s' hj hm hle' => ih j _ s' hj hm hle'

/-- Ahead to a place from which all is known by states st j. -/
theorem Run.cutA {a b : MC} {ι : Type} (tg : List (Nat × Nat)) (J : ι → Prop) (st : ι → St) (hl : D.rs.length ≤ 4) (hk : ∀ j, J j → Ex P D G 4000 .ctl (.code b :: k) (st j))
    (h : (∀ (j : ι) (s' : St), J j → Le G.nin (kpA s'.env tg) s' (st j) → Run P D G (.code b :: k) s') → Ex P D G 4000 .ctl (.code a :: .stop :: .code b :: k) s) : Run P D G (.code (.seq a b) :: k) s :=
  Run.cut J st hl hk fun h' => h fun j s' hj hle => h' j _ s' hj hle

/-- The place behind a loop's block, from which all is known by states st j. -/
theorem Run.cutB {x : MC} {id : Nat} {ι : Type} (tg : List (Nat × Nat)) (J : ι → Prop) (st : ι → St) (hl : D.rs.length ≤ 4) (hk : ∀ j, J j → Ex P D G 4000 .ctl k (st j))
    (h : (∀ (j : ι) (s' : St), J j → Le G.nin (kpA s'.env tg) s' (st j) → Run P D G k s') → Run P D G (.code (.loop x) :: .inBlock id :: .stop :: k) s) : Run P D G (.code (.loop x) :: .inBlock id :: k) s := by
  have h1 := h fun j s' hj hle => Run.le hle (Ex.run hl (hk j hj))
  intro C fn a W hdr ow items hC hfn r hm b cs hb hbk
  cases hm with
  | cons hx hm => cases hm with
    | cons hy hm => exact h1 C fn a W hdr ow _ hC hfn r (.cons hx (.cons hy (.stop hm))) b cs hb hbk

/-- A row that was handed in is handed back. -/
theorem Ends.one {x : AV} (hn : G.nin = 1) (h1 : retA s.heap s.env D.rs = some x) (h2 : passR s.heap [0] x = some G.res) (h3 : passH s.heap 0 [0] = G.H') (h4 : ∀ p ∈ G.H', p.2.sz ≠ 0 := by simp) : Ends D G s :=
  ⟨[0], x, by simp, h1, h2, h3, h4, fun k hk _ => by
    have : k = 0 := by omega
    subst this; rfl⟩
/-- A new row goes out. -/
theorem Ends.new {x : AV} (id : Nat) (hn : G.nin = 0) (h1 : retA s.heap s.env D.rs = some x) (h2 : passR s.heap [id] x = some G.res) (h3 : passH s.heap 0 [id] = G.H') (h4 : ∀ p ∈ G.H', p.2.sz ≠ 0 := by simp) : Ends D G s :=
  ⟨[id], x, by simp, h1, h2, h3, h4, fun k hk _ => by omega⟩
/-- A row that was handed in has been taken over: it goes out under the next number. -/
theorem Ends.moved {x : AV} (a id : Nat) (hd : a ≠ id) (hn : G.nin = 1) (h1 : retA s.heap s.env D.rs = some x) (h2 : passR s.heap [a, id] x = some G.res) (h3 : passH s.heap 0 [a, id] = G.H') (h5 : find G.H' 0 = none := by simp) (h4 : ∀ p ∈ G.H', p.2.sz ≠ 0 := by simp) : Ends D G s :=
  ⟨[a, id], x, by simp [hd], h1, h2, h3, h4, fun k hk h => by
    have : k = 0 := by omega
    subst this; rw [h5] at h; cases h⟩
end

theorem wrap_u64 {x : Int} (h0 : 0 ≤ x) (h : x ≤ 18446744073709551615) : IntKind.u64.wrap x = x := IntWalk.u64_in x ⟨h0, h⟩
theorem half_eq {i j : Nat} (h : i + j ≤ 9223372036854775807) : IntKind.i64.wrap (((i : Int) + (j : Int)).fdiv (2 ^ min 1 IntKind.u64.bits)) = (((i + j) / 2 : Nat) : Int) := by
  have e : (2 : Int) ^ min 1 IntKind.u64.bits = 2 := by decide
  rw [e, wrap_i64] <;> rw [Int.fdiv_eq_ediv_of_nonneg _ (by decide)] <;> omega
theorem bs_ite {c : Prop} [Decidable c] (x y : Bs) : (if c then bs x else bs y) = bs (if c then x else y) := by split <;> rfl
theorem toNat1 (i : Nat) : ((i : Int) + 1).toNat = i + 1 := by omega
theorem toNat2 (i : Nat) : ((i : Int) + 2).toNat = i + 2 := by omega
theorem nn1 (i : Nat) : (0 : Int) ≤ (i : Int) + 1 := by omega
theorem nn2 (i : Nat) : (0 : Int) ≤ (i : Int) + 2 := by omega
theorem lt1 {i n : Nat} : ((i : Int) + 1 < (n : Int)) ↔ i + 1 < n := by omega
theorem lt1c {i n : Nat} : ((i : Int) + 1 < (no_index (OfNat.ofNat n) : Int)) ↔ i + 1 < (OfNat.ofNat n : Nat) := by
  show ((i : Int) + 1 < (n : Int)) ↔ i + 1 < n; omega
theorem lt2c {i n : Nat} : ((i : Int) + 2 < (no_index (OfNat.ofNat n) : Int)) ↔ i + 2 < (OfNat.ofNat n : Nat) := by
  show ((i : Int) + 2 < (n : Int)) ↔ i + 2 < n; omega
theorem le1 {i n : Nat} : ((n : Int) ≤ (i : Int) + 1) ↔ n ≤ i + 1 := by omega
attribute [simp] toNat1 toNat2 nn1 nn2 lt1 lt1c lt2c le1
theorem drop_at {α : Type} {l : List α} {i : Nat} (h : i < l.length) : l.drop i = l[i] :: l.drop (i + 1) := List.drop_eq_getElem_cons h
theorem drop_no {α : Type} {l : List α} {i : Nat} (h : ¬ i < l.length) : l.drop i = [] := List.drop_of_length_le (by omega)
end Go.AM

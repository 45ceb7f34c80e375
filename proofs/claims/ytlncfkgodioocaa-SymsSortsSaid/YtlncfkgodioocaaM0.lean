/- Small lemmas that all texts of this seat use: sizes of constant strings, a row that came in as a shared one, and the opening of arguments of any printed kind. -/
import Derived.Test.YtlncfkgodioocaaWNEv
import Derived.Test.YtlncfkgodioocaaWShare
import Derived.Test.YtlncfkgodioocaaWMore
import Derived.Test.YtlncfkgodioocaaWFoot
import Derived.SizedLaws
import Derived.ChangeSlices
import Derived.ChangeArms
import Derived.OpenShut
import Derived.WalkSpells
import Derived.WalkLawsBesides
namespace Go.Proofs.Ytlncfkgodioocaa.P
open Go.RowKit Go.Proofs.YtlncfkgodioocaaW.PrintWords Go.Proofs.YtlncfkgodioocaaW.PrintLast Go.Proofs.YtlncfkgodioocaaW.PrintMore
open Go.ChangeShapes Go.WideShapes

theorem mw_bne_nil (l : List UInt8) : (l != []) = !l.isEmpty := by cases l <;> rfl
theorem mw_beq_nil (l : List UInt8) : (l == []) = l.isEmpty := by cases l <;> rfl
theorem mw_ret_i64 {a b : Int} (h : a = b) : Ending.returned (.int .i64 a) = .returned (.int .i64 b) := by rw [h]
theorem mw_ret_bool {a b : Bool} (h : a = b) : Ending.returned (.bool a) = .returned (.bool b) := by rw [h]
theorem mw_ret_str {a b : ByteArray} (h : a = b) : Ending.returned (.string a) = .returned (.string b) := by rw [h]
theorem mw_size_mk (xs : Array UInt8) : (ByteArray.mk xs).size = xs.size := rfl

/-- The order of bytes' lists is total: how '<=' and '>' of strings are told. -/
theorem mw_less_total : ∀ a b : List UInt8, (Op.bytesLess a b || a == b) = !(Op.bytesLess b a)
  | [], [] => rfl
  | [], _ :: _ => by simp [Op.bytesLess]
  | _ :: _, [] => by simp [Op.bytesLess]
  | x :: a, y :: b => by
    have ih := mw_less_total a b
    simp only [Op.bytesLess]
    by_cases h : x = y
    · subst h
      simp only [show ¬ (x < x) from UInt8.lt_irrefl x, decide_false, Bool.false_or, beq_self_eq_true, Bool.true_and, List.cons_beq_cons]
      exact ih
    · have h2 : ¬ (y = x) := fun e => h e.symm
      have e1 : (x == y) = false := beq_eq_false_iff_ne.2 h
      have e2 : (y == x) = false := beq_eq_false_iff_ne.2 h2
      simp only [e1, e2, Bool.false_and, Bool.or_false, List.cons_beq_cons]
      rcases UInt8.lt_or_lt_of_ne h with hl | hl
      · simp [hl, UInt8.not_lt.2 (UInt8.le_of_lt hl)]
      · simp [hl, UInt8.not_lt.2 (UInt8.le_of_lt hl)]
@[go_sem high] theorem mw_string_gtr (t : TypeId) (a b : ByteArray) : binOp .gtr t (.string a) (.string b) = pure (.bool (Op.bytesLess b.toList a.toList)) := by
  rw [binOp_string_gtr, mw_less_total, Bool.not_not]
@[go_sem high] theorem mw_string_leq (t : TypeId) (a b : ByteArray) : binOp .leq t (.string a) (.string b) = pure (.bool !(Op.bytesLess b.toList a.toList)) := by
  rw [binOp_string_leq, mw_less_total]

/-- The number of a function value that captures nothing. -/
def fnOf : Value → Option Nat
  | .func (.func n) a b => if a.size = 0 ∧ b.size = 0 then some n else none
  | _ => none
theorem fnOf_some {v : Value} {n : Nat} (h : fnOf v = some n) : v = .func (.func n) #[] #[] := by
  unfold fnOf at h
  split at h
  · rename_i m a b
    by_cases hs : a.size = 0 ∧ b.size = 0
    · rw [if_pos hs] at h
      obtain rfl := Option.some.inj h
      rw [Array.eq_empty_of_size_eq_zero hs.1, Array.eq_empty_of_size_eq_zero hs.2]
    · rw [if_neg hs] at h; cases h
  · cases h

/-- What came in, as a row that may be shared. -/
theorem mw_shared {α : Type} {d : Kd α} (hd : Kd.Heap d) {w : World} {A : Option Addr} {xs : List α} {c e : Nat} (h : d.C w A xs.length xs) (hc : xs.length ≤ c) :
    Kd.V d e w w.heap.size (fun k => k < w.heap.size) (.slice A xs.length c) xs := Kd.V_mk hc (Kd.C_F hd h)

/-- A list of strings that is read, cell by cell, as the shelf's contracts want it. -/
theorem mw_strCells {w : World} {A : Option Addr} {l : List ByteArray} (h : Kd.C Kd.string w A l.length l) (h0 : 0 < l.length) :
    ∃ b o, A = some ⟨b, o, none⟩ ∧ b < w.heap.size ∧ ∀ (j : Nat) x, l[j]? = some x → w.cell? ⟨b, o + j, none⟩ = some (.string x) := by
  obtain ⟨ad, e, hc⟩ := h.2.2 h0
  have each : ∀ (j : Nat) x, l[j]? = some x → w.cell? (ad.add j) = some (.string x) := by
    intro j x hj
    obtain ⟨c, _, hk, hcell⟩ := hc j x hj
    have hk' : c = [.string x] := hk
    subst hk'
    have := hcell 0 _ rfl
    simpa [Kd.string, Kd.scalar] using this
  have h1 := each 0 l[0] (List.getElem?_eq_getElem h0)
  obtain ⟨b, o, s⟩ := ad
  have hs : s = none := by
    have : w.cell? ⟨b, o, s⟩ = some (.string l[0]) := by simpa [Addr.add] using h1
    unfold World.cell? at this
    split at this
    · cases s with
      | none => rfl
      | some _ => simp at this
    · cases this
  subst hs
  refine ⟨b, o, e, World.block_lt_of_cell? w ⟨b, o, none⟩ (by simpa [Addr.add] using h1), fun j x hj => ?_⟩
  have := each j x hj
  unfold Addr.add at this
  split at this
  · rename_i h; subst h; simpa using this
  · exact this

/-- A reading of type t opens to a value of kind d, and that is as B says. -/
def Opens {α : Type} (P : Program) (t : TypeId) (d : Kd α) (B : α → Prop) : Prop :=
  ∀ (H : Type) (enc : TypeId × Value → H) (w : World) (spare : Nat → Bool) (held : Bool) (fuel : Nat) (cs : List Value) (x : DataW H × List MemPlace),
    DataW.trod enc P w 0 spare held fuel t cs = some x → (∀ n ∈ x.1.weights P t, n ≤ reachBytes) → ∃ y, d.K w y cs ∧ B y

theorem Opens.mono {α : Type} {P : Program} {t : TypeId} {d : Kd α} {B B' : α → Prop} (h : Opens P t d B) (hB : ∀ y, B y → B' y) : Opens P t d B' :=
  fun H enc w spare held fuel cs x hx hw => let ⟨y, hk, hb⟩ := h H enc w spare held fuel cs x hx hw; ⟨y, hk, hB y hb⟩

theorem opens_int {P : Program} {t : TypeId} {k : IntKind} (ht : P.underlying t = some (.int k)) : Opens P t (Kd.int k) (fun n => (Lit.int k n).wf = true) := by
  intro H enc w spare held fuel cs x hx _
  obtain ⟨n, rfl, _, hw⟩ := DataW.trod_int ht hx
  exact ⟨n, rfl, hw⟩

theorem opens_bool {P : Program} {t : TypeId} (ht : P.underlying t = some .bool) : Opens P t Kd.bool (fun _ => True) := by
  intro H enc w spare held fuel cs x hx _
  obtain ⟨n, rfl, _⟩ := DataW.trod_bool ht hx
  exact ⟨n, rfl, trivial⟩

theorem opens_string {P : Program} {t : TypeId} (ht : P.underlying t = some .string) : Opens P t Kd.string (fun s => s.size ≤ 140737488351232) := by
  intro H enc w spare held fuel cs x hx hw
  obtain ⟨s, rfl, rfl, _⟩ := DataW.trod_string ht hx
  refine ⟨s, rfl, ?_⟩
  have := hw s.data.toList.length (by simp [DataW.weights])
  rw [Array.length_toList] at this
  exact this

theorem weightsAll_mem {H : Type} {P : Program} {e : TypeId} : ∀ {ds : List (DataW H)} {d : DataW H}, d ∈ ds → ∀ n ∈ d.weights P e, n ∈ DataW.weightsAll P e ds
  | [], _, h, _, _ => by cases h
  | d0 :: ds, d, h, n, hn => by
    rw [DataW.weightsAll]
    rcases List.mem_cons.1 h with rfl | h
    · exact List.mem_append_left _ hn
    · exact List.mem_append_right _ (weightsAll_mem h n hn)

theorem mw_cells {w : World} {base : Nat} {a : Addr} {n : Nat} {cs : List Value} (h : w.cells? base a n = some cs) :
    cs.length = n ∧ ∀ i u, cs[i]? = some u → w.cell? (a.add i) = some u := by
  unfold World.cells? at h
  split at h
  · refine ⟨by simpa using mapM_some_length h, fun i u hu => ?_⟩
    have hl := mapM_some_length h
    have hi : i < n := by have := (List.getElem?_eq_some_iff.1 hu).1; simp at hl; omega
    have := mapM_some_get h i i (by simp [hi])
    exact this.trans hu
  · cases h

theorem opens_slice {α : Type} {P : Program} {t e b : Nat} {d : Kd α} {B : α → Prop} (ht : P.underlying t = some (.slice e)) (hz : d.sz = P.cellsOf e) (hbb : P.bytesOf e = b) (h : Opens P e d B) :
    Opens P t (Kd.slice e d) (fun l => l.length * b ≤ 140737488351232 ∧ ∀ x ∈ l, B x) := by
  subst hbb
  intro H enc w spare held fuel cs x hx hw
  rcases DataW.trod_slice ht hx with ⟨rfl, rfl⟩ | ⟨a, len, cap, elems, rest, n, rfl, rfl, rfl, _, hl, hm, hlen, hel, _, _⟩
  · exact ⟨[], ⟨none, 0, rfl, Nat.le_refl _, rfl, by simp, fun hh => absurd hh (by simp)⟩, by simp, by simp⟩
  have each : ∀ i (hi : i < len), ∃ y : α, ∃ c, c.length = d.sz ∧ d.K w y c ∧ (∀ j u, c[j]? = some u → w.cell? (a.add (i * d.sz + j)) = some u) ∧ B y := by
    intro i hi
    have h0 := hel i hi
    have hi' : i < elems.length := by omega
    rw [List.getElem?_eq_getElem hi', Option.bind_eq_some_iff] at h0
    obtain ⟨c, hc, hd⟩ := h0
    obtain ⟨hcl, hcc⟩ := mw_cells hc
    obtain ⟨y, hk, hb⟩ := h H enc w spare held n c _ hd (fun m hmm => hw m (by
      rw [DataW.weights, ht]
      refine List.mem_cons_of_mem _ (List.mem_append_left _ (weightsAll_mem (d := elems[i].1) (List.mem_map.2 ⟨elems[i], List.getElem_mem hi', rfl⟩) m hmm))))
    refine ⟨y, c, by rw [hcl, hz], hk, fun j u hj => ?_, hb⟩
    have := hcc j u hj
    rwa [Addr.add_add, ← hz] at this
  let f : Nat → Option α := fun i => if hi : i < len then some (Classical.choose (each i hi)) else none
  let l : List α := (List.range len).filterMap f
  have hlf : ∀ i, i < len → ∃ y, f i = some y ∧ ∃ c, c.length = d.sz ∧ d.K w y c ∧ (∀ j u, c[j]? = some u → w.cell? (a.add (i * d.sz + j)) = some u) ∧ B y := by
    intro i hi
    exact ⟨_, by simp only [f, dif_pos hi], Classical.choose_spec (each i hi)⟩
  have hget : ∀ m, m ≤ len → ((List.range m).filterMap f).length = m ∧ ∀ j, j < m → ((List.range m).filterMap f)[j]? = f j := by
    intro m
    induction m with
    | zero => exact fun _ => ⟨rfl, fun j hj => absurd hj (by omega)⟩
    | succ m ih =>
      intro hm1
      obtain ⟨h1, h2⟩ := ih (by omega)
      obtain ⟨y, hy, _⟩ := hlf m (by omega)
      have e : (List.range (m + 1)).filterMap f = (List.range m).filterMap f ++ [y] := by rw [List.range_succ, List.filterMap_append]; simp [hy]
      refine ⟨by rw [e]; simp [h1], fun j hj => ?_⟩
      rw [e]
      by_cases hjm : j < m
      · rw [List.getElem?_append_left (by omega)]; exact h2 j hjm
      · have : j = m := by omega
        subst this
        rw [List.getElem?_append_right (by omega), h1]; simp [hy]
  obtain ⟨hL, hG⟩ := hget len (Nat.le_refl _)
  have hL' : l.length = len := hL
  refine ⟨l, ⟨some a, cap, by rw [hL'], by rw [hL']; exact hl, rfl, by rw [hL']; unfold maxLen at hm; omega, fun _ => ⟨a, rfl, fun j p hj => ?_⟩⟩, ?_, fun y hy => ?_⟩
  · have hj' : j < len := by have := (List.getElem?_eq_some_iff.1 hj).1; omega
    obtain ⟨y, hy, c, h1, h2, h3, _⟩ := hlf j hj'
    have : p = y := by have e := hG j hj'; rw [hy] at e; exact Option.some.inj (hj.symm.trans e)
    subst this
    exact ⟨c, h1, h2, h3⟩
  · have := hw ((elems.length + rest.length) * P.bytesOf e) (by rw [DataW.weights, ht]; simp)
    rw [hL', ← hlen]
    exact Nat.le_trans (Nat.mul_le_mul_right _ (Nat.le_add_right _ _)) this
  · obtain ⟨j, hj⟩ := List.getElem?_of_mem hy
    have hj' : j < len := by have := (List.getElem?_eq_some_iff.1 hj).1; omega
    obtain ⟨y', hy', c, _, _, _, h4⟩ := hlf j hj'
    have : y = y' := by have e := hG j hj'; rw [hy'] at e; exact Option.some.inj (hj.symm.trans e)
    rw [this]; exact h4

/-- An argument of the row, opened. -/
theorem open_arg {α : Type} {P : Program} {t : TypeId} {d : Kd α} {B : α → Prop} (h : Opens P t d B) {H : Type} {enc : TypeId × Value → H} {W : World} {spare : Nat → Bool} {held : Bool} {ts : List TypeId} {ds : List (DataW H)} {j : Nat} {v : Value} {dd : DataW H} {ps : List MemPlace}
    (hsz : (DataW.weightsEach P ts ds).all (· ≤ reachBytes) = true) (ht : ts[j]? = some t) (hd : ds[j]? = some dd) (ha : DataW.Trod enc P W 0 spare held t v dd ps) : ∃ y, d.K W y v.cells.toList ∧ B y := by
  obtain ⟨fuel, hf⟩ := ha
  refine h H enc W spare held fuel _ _ hf (fun n hn => ?_)
  have := List.all_eq_true.1 hsz n (DataW.weights_mem_each ht hd n hn)
  simpa using this

/-- A slice among the arguments. -/
theorem open_row {α : Type} {P : Program} {t e : TypeId} {d : Kd α} {B : List α → Prop} (h : Opens P t (Kd.slice e d) B) {H : Type} {enc : TypeId × Value → H} {W : World} {spare : Nat → Bool} {held : Bool} {ts : List TypeId} {ds : List (DataW H)} {j : Nat} {A : Option Addr} {len cap : Nat} {dd : DataW H} {ps : List MemPlace}
    (hsz : (DataW.weightsEach P ts ds).all (· ≤ reachBytes) = true) (ht : ts[j]? = some t) (hd : ds[j]? = some dd) (ha : DataW.Trod enc P W 0 spare held t (.slice A len cap) dd ps) : ∃ l, len = l.length ∧ l.length ≤ cap ∧ d.C W A l.length l ∧ B l := by
  obtain ⟨l, ⟨A', c, hc, h1, h2⟩, hb⟩ := open_arg h hsz ht hd ha
  simp [Value.cells] at hc
  obtain ⟨rfl, rfl, rfl⟩ := hc
  exact ⟨l, rfl, h1, h2, hb⟩

end Go.Proofs.Ytlncfkgodioocaa.P

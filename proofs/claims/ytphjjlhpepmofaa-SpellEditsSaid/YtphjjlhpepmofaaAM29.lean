/- Loops whose rows are found by their slots; more finishes; more reckoning of numbers. -/
import Derived.Test.YtphjjlhpepmofaaAM28
set_option linter.all false
namespace Go.AM
open Go

/-- The rows to keep, by the slots that hold them. -/
def kpA (E : Env) : List (Nat × Nat) → List (Nat × Nat)
  | [] => []
  | (a, t) :: l => match find E t with
    | some (.h id) => (a, id) :: kpA E l
    | some (.ptr id _ _) => (a, id) :: kpA E l
    | _ => kpA E l
attribute [simp] kpA

section
variable {P : Program} {D : Fd} {G : Gl} {k : List MI} {s s' : St}
/-- A loop whose rounds begin at states st i; tg: the numbers of its rows, and the slots that hold them. -/
theorem Run.loopA {x : MC} {ι : Type} (tg : List (Nat × Nat)) (I : ι → Prop) (st : ι → St) (ms : ι → Nat) (i0 : ι) (hl : D.rs.length ≤ 4) (hle : Le G.nin (kpA s.env tg) s (st i0)) (h0 : I i0)
    (step : ∀ i, I i → (∀ (j : ι) (s' : St), I j → ms j < ms i → Le G.nin (kpA s'.env tg) s' (st j) → Run P D G (.inLoop x :: k) s') → Ex P D G 4000 .ctl (.code x :: .inLoop x :: k) (st i)) : Run P D G (.code (.loop x) :: k) s :=
  Run.loopI I st ms i0 _ hl hle h0 fun i hi ih => step i hi fun j s' hj hm hle' => ih j _ s' hj hm hle'

/-- Ahead to a place from which all is known by states st j. -/
theorem Run.cutA {a b : MC} {ι : Type} (tg : List (Nat × Nat)) (J : ι → Prop) (st : ι → St) (hl : D.rs.length ≤ 4) (hk : ∀ j, J j → Ex P D G 4000 .ctl (.code b :: k) (st j))
    (h : (∀ (j : ι) (s' : St), J j → Le G.nin (kpA s'.env tg) s' (st j) → Run P D G (.code b :: k) s') → Ex P D G 4000 .ctl (.code a :: .stop :: .code b :: k) s) : Run P D G (.code (.seq a b) :: k) s :=
  Run.cut J st hl hk fun h' => h fun j s' hj hle => h' j _ s' hj hle

/-- The place behind a loop's block, from which all is known by states st j. -/
theorem Run.cutB {x : MC} {id : Nat} {ι : Type} (tg : List (Nat × Nat)) (J : ι → Prop) (st : ι → St) (hl : D.rs.length ≤ 4) (hk : ∀ j, J j → Ex P D G 4000 .ctl k (st j))
    (h : (∀ (j : ι) (s' : St), J j → Le G.nin (kpA s'.env tg) s' (st j) → Run P D G k s') → Run P D G (.code (.loop x) :: .inBlock id :: .stop :: k) s) : Run P D G (.code (.loop x) :: .inBlock id :: k) s := by
  have h1 := h fun j s' hj hle => Run.le hle (Ex.run hl (hk j hj))
  intro C fn a W hdr ow items hC hfn r hm b cs hb hbk
  cases hm with
  | cons hx hm => cases hm with
    | cons hy hm => exact h1 C fn a W hdr ow _ hC hfn r (.cons hx (.cons hy (.stop hm))) b cs hb hbk

/-- A row that was handed in is handed back. -/
theorem Ends.one {x : AV} (hn : G.nin = 1) (h1 : retA s.env D.rs = some x) (h2 : passR s.heap [0] x = some G.res) (h3 : passH s.heap 0 [0] = G.H') (h4 : ∀ p ∈ G.H', p.2.sz ≠ 0 := by simp) : Ends D G s :=
  ⟨[0], x, by simp, h1, h2, h3, h4, fun k hk _ => by
    have : k = 0 := by omega
    subst this; rfl⟩
/-- A new row goes out. -/
theorem Ends.new {x : AV} (id : Nat) (hn : G.nin = 0) (h1 : retA s.env D.rs = some x) (h2 : passR s.heap [id] x = some G.res) (h3 : passH s.heap 0 [id] = G.H') (h4 : ∀ p ∈ G.H', p.2.sz ≠ 0 := by simp) : Ends D G s :=
  ⟨[id], x, by simp, h1, h2, h3, h4, fun k hk _ => by omega⟩
end

theorem wrap_u64 {x : Int} (h0 : 0 ≤ x) (h : x ≤ 18446744073709551615) : IntKind.u64.wrap x = x := IntWalk.u64_in x ⟨h0, h⟩
theorem half_eq {i j : Nat} (h : i + j ≤ 9223372036854775807) : IntKind.i64.wrap (((i : Int) + (j : Int)).fdiv (2 ^ min 1 IntKind.u64.bits)) = (((i + j) / 2 : Nat) : Int) := by
  have e : (2 : Int) ^ min 1 IntKind.u64.bits = 2 := by decide
  rw [e, wrap_i64] <;> rw [Int.fdiv_eq_ediv_of_nonneg _ (by decide)] <;> omega
theorem bs_ite {c : Prop} [Decidable c] (x y : Bs) : (if c then bs x else bs y) = bs (if c then x else y) := by split <;> rfl
theorem toNat1 (i : Nat) : ((i : Int) + 1).toNat = i + 1 := by omega
theorem toNat2 (i : Nat) : ((i : Int) + 2).toNat = i + 2 := by omega
theorem nn1 (i : Nat) : (0 : Int) ≤ (i : Int) + 1 := by omega
theorem nn2 (i : Nat) : (0 : Int) ≤ (i : Int) + 2 := by omega
theorem lt1 {i n : Nat} : ((i : Int) + 1 < (n : Int)) ↔ i + 1 < n := by omega
theorem lt1c {i n : Nat} : ((i : Int) + 1 < (no_index (OfNat.ofNat n) : Int)) ↔ i + 1 < (OfNat.ofNat n : Nat) := by
  show ((i : Int) + 1 < (n : Int)) ↔ i + 1 < n; omega
theorem lt2c {i n : Nat} : ((i : Int) + 2 < (no_index (OfNat.ofNat n) : Int)) ↔ i + 2 < (OfNat.ofNat n : Nat) := by
  show ((i : Int) + 2 < (n : Int)) ↔ i + 2 < n; omega
theorem le1 {i n : Nat} : ((n : Int) ≤ (i : Int) + 1) ↔ n ≤ i + 1 := by omega
attribute [simp] toNat1 toNat2 nn1 nn2 lt1 lt1c lt2c le1
theorem drop_at {α : Type} {l : List α} {i : Nat} (h : i < l.length) : l.drop i = l[i] :: l.drop (i + 1) := List.drop_eq_getElem_cons h
theorem drop_no {α : Type} {l : List α} {i : Nat} (h : ¬ i < l.length) : l.drop i = [] := List.drop_of_length_le (by omega)
end Go.AM

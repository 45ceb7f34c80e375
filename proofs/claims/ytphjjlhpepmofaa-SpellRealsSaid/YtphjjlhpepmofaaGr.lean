/- The walk. -/
import Derived.Test.YtphjjlhpepmofaaAMY
import Derived.WalkKit
import Derived.Tactics2
import Derived.OwnWalk
import Derived.Lib.AppendZerosOnto
import Derived.Test.YtphjjlhpepmofaaProg
import Derived.KernelRfl
set_option linter.all false
set_option maxHeartbeats 2000000
namespace Go.Proofs
open Go Go.AM
attribute [local irreducible] Run Ends
open Go.RowKit Go.Lib
theorem grow_info : (Try.prog.info? 25).map (fun i => (i.zero, i.size, i.bytes)) = some (some (.slice none 0 0), 1, 24) := by kernel_rfl
theorem grow_app {ops : Array Oper} {rest : List Oper} {o : Oper} {a : Act} {w : World} {Q : Exit → Act → World → Prop} (hgd : o.guard = none) (x y : Operand) (ho : o.op = .call { callee := .builtin .append, args := #[x, y], argTypes := #[51, 3] })
    (n : Nat) (hx : a.eval x = .slice none 0 0) (hy : a.eval y = .int .i64 n) (h0 : 0 < n) (hn : n ≤ 1000000000)
    (h : ∀ (cap : Nat) (c : List Value), n ≤ cap → cap ≤ c.length → wpList Try.prog ops Q rest (a.put o.dst (.slice (some ⟨w.heap.size, 0, none⟩) n cap)) (w.drew.alloc (.cells c.toArray 25))) : wpList Try.prog ops Q (o :: rest) a w := by
  obtain ⟨i, hi, hz⟩ := Option.map_eq_some_iff.1 grow_info
  simp only [Prod.mk.injEq] at hz
  obtain ⟨hz, hs, hb⟩ := hz
  have hnc : Builtin.nextslicecap (0 + n) 0 * i.bytes ≤ 281474976710656 := by
    have h1 : Builtin.nextslicecap (0 + n) 0 ≤ 2 * (0 + n) + 1000 := nextcap_le (by omega)
    rw [hb]
    have h2 := Nat.mul_le_mul_right 24 h1
    refine Nat.le_trans h2 ?_
    clear h1 h2
    omega
  have hrun := run_append_grow_zeros (P := Try.prog) w 51 3 o.type 25 i _ .i64 .i64 Try.underlying51 Try.underlying3 hi hz none 0 0 [] (by simp [Builtin.firstCells, hs]) n h0 (by omega) (by omega) (by omega) (by rw [hb]; omega) hnc
  have hge := grownCap_ge w (0 + n) 0 25
  rw [Nat.zero_add] at hrun hge
  refine wpList_plain hgd fun K hK => ?_
  unfold Oper.wp execOp
  simp only [ho, resolve, invoke, builtin, Sem.run_bind, Sem.run_pure, Result.andThen_ok, List.map_toArray, List.map_cons, List.map_nil, hx, hy, hrun]
  have hh := h _ (([] : List Value).toArray ++ Builtin.zeroCells (Value.slice none 0 0).cells n ++ Builtin.zeroCells (Value.slice none 0 0).cells (grownCap w n 0 25 - n)).toList hge (by
    simp [Builtin.zeroCells, Value.cells]; omega)
  rw [Array.toArray_toList] at hh
  exact hK _ _ hh
set_option maxRecDepth 100000 in
theorem grow_zero (w : World) : Calls Try.prog 88 #[.slice none 0 0, .int .i64 0] w fun e w' => e = .returned (.slice none 0 0) ∧ w' = w := by
  go_enter Try.func88, Try.ntmps88
  go_wp2
  go_ret
  exact ⟨rfl, rfl⟩
set_option maxRecDepth 100000 in
theorem grow_some (n : Nat) (h0 : 0 < n) (hn : n ≤ 1000000000) (w : World) : Calls Try.prog 88 #[.slice none 0 0, .int .i64 n] w fun e w' => ∃ (cap : Nat) (c : List Value), n ≤ cap ∧ cap ≤ c.length ∧ e = .returned (.slice (some ⟨w.heap.size, 0, none⟩) 0 cap) ∧ w' = w.drew.alloc (.cells c.toArray 25) := by
  have h1 : IntKind.i64.wrap (n : Int) = n := wrap_i64 (by omega) (by omega)
  have h2 : ¬ ((n : Int) < 0) := by omega
  have h3 : (0 : Int) < n := by omega
  go_enter Try.func88, Try.ntmps88
  go_wp2_with (at_builtin; refine grow_app rfl _ _ rfl n ?hx ?hy h0 hn ?_)
  intro cap c hcap hc
  have hz : 0 ≤ cap := Nat.zero_le _
  go_wp2
  go_ret
  exact ⟨cap, c, hcap, hc, rfl, rfl⟩

/-- slices.Grow at nil: a row of its own, without elements. -/
theorem fok88 (n : Nat) (hn : n ≤ 1000000000) : FOk Try.prog 88 [.v .nl, .I n] [] (.h 0) [(0, ⟨false, 1, []⟩)] := by
  refine ⟨fun xs W => Try.call88 xs W, fun W ok0 vals hdr ow hm hv => ?_⟩
  obtain ⟨v0, v1, rfl, rfl, rfl⟩ : ∃ v0 v1, vals = [v0, v1] ∧ v0 = .slice none 0 0 ∧ v1 = .int .i64 n := by
    match vals, hv with
    | [], hv => simp [RepAs] at hv
    | [_], hv => simp [RepAs] at hv
    | _ :: _ :: _ :: _, hv => simp [RepAs] at hv
    | [v0, v1], hv =>
      simp only [RepAs, RepA] at hv
      refine ⟨v0, v1, rfl, ?_, hv.2.1.wInv.1⟩
      have h1 := hv.1
      unfold RepV at h1
      simp only [PV.isSt, Bool.false_eq_true, if_false] at h1
      generalize hvv : [v0] = vv at h1
      cases h1
      simp only [List.cons.injEq, and_true] at hvv
      exact hvv
  have no : ∀ j, ¬ Own [] ow j := by rintro j ⟨id, e, h1, _⟩; simp [find] at h1
  by_cases h0 : n = 0
  · subst h0
    refine (grow_zero W).mono ?_
    rintro e W' ⟨rfl, rfl⟩
    refine ⟨_, fun _ => .slice none 0 0, fun _ => none, rfl, ⟨?_, ?_, ?_, Nat.le_refl _, fun _ _ _ => rfl, rfl, rfl, .refl _⟩, ?_, ?_⟩
    · intro id e he
      simp only [find] at he
      split at he
      · cases he; exact .inl ⟨fun h => absurd h (by simp), .inr (.inl ⟨rfl, rfl, none, rfl⟩)⟩
      · cases he
    · intro id id' e e' b _ _ h; cases h
    · intro id e b _ h; cases h
    · simp [RepA]
    · intro k e e' h; simp [find] at h
  · refine (grow_some n (by omega) hn W).mono ?_
    rintro e W' ⟨cap, c, h1, h2, rfl, rfl⟩
    refine ⟨_, fun _ => .slice (some ⟨W.heap.size, 0, none⟩) 0 cap, fun _ => some W.heap.size, rfl, ⟨?_, ?_, ?_, ?_, ?_, rfl, rfl, ⟨rfl, fun _ => Nat.le_succ _⟩⟩, ?_, ?_⟩
    · intro id e he
      simp only [find] at he
      split at he
      · cases he
        refine .inl ⟨fun h => absurd h (by simp), .inr (.inr ⟨rfl, W.heap.size, 0, cap, c, rfl, rfl, ⟨25, ?_⟩, by simpa using h2, by simp, by simpa using RepL.nil⟩)⟩
        show (W.heap.push _)[W.heap.size]? = _
        simp
      · cases he
    · intro id id' e e' b g1 g2 _ _
      simp only [find] at g1 g2
      split at g1
      · split at g2
        · rename_i p q; rw [p, q]
        · cases g2
      · cases g1
    · intro id e b g1 g2
      cases g2
      refine ⟨?_, .inr (Nat.le_refl _)⟩
      show _ < (W.heap.push _).size
      simp
    · show _ ≤ (W.heap.push _).size
      simp
    · intro b hb _
      show (W.heap.push _)[b]? = _
      rw [Array.getElem?_push_lt hb]
      simp [hb]
    · simp [RepA]
    · intro k e e' h; simp [find] at h

end Go.Proofs

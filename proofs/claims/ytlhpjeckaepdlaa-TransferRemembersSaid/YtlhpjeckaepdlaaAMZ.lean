/- Running through the code: the rules. -/
import Derived.Test.YtlhpjeckaepdlaaAMY
import Derived.IntWalk
import Derived.Lib.Strings
import Derived.OpenShut
import Derived.ProofKit
import Derived.DataElems
import Derived.SizedLaws
import Derived.WalkKit
import Derived.ShutString
import Derived.ChangeOld
set_option linter.all false
namespace Go.AM
open Go
variable [dr : Inhabited Prop]

section
variable (P : Program) (ows : List Nat) (n : Nat)
def isPanic : Oper → Bool
  | { op := .panic _, .. } => true
  | _ => false
def cC : Code → Option MC
  | .skip => some .skip
  | .region _ ops draw => match mapO (cO P ows n ops) ops.toList with
    | some L => if distinctB L = true ∧ (draw = true → drawB ops L = true ∧ P.follows .mixedOrders = true) then some (.reg draw L) else none
    | none => if ops.toList.any isPanic = true then some .bad else none
  | .seq a b => match cC a, cC b with
    | some a, some b => some (.seq a b)
    | _, _ => none
  | .cond c a b => match opd P 0 c, cC a, cC b with
    | some c, some a, some b => some (.cond c a b)
    | _, _, _ => none
  | .block id b => (cC b).map (.block id)
  | .loop b => (cC b).map .loop
  | .exit id => some (.exit id)
  | .ret => some .ret
  | _ => none
end

inductive MI where
  | code (c : MC)
  | inBlock (id : Nat)
  | inLoop (c : MC)
  | stop

def mexit (id : Nat) : List MI → Option (List MI)
  | .inBlock j :: k => if j = id then some k else mexit id k
  | .stop :: k => (mexit id k).map (MI.stop :: ·)
  | .code _ :: k => mexit id k
  | .inLoop _ :: k => mexit id k
  | [] => none

section
variable (P : Program) (ows : List Nat) (n : Nat)
inductive Mt : MI → Item → Prop
  | code {c : Code} {m : MC} : cC P ows n c = some m → Mt (.code m) (.code c)
  | inBlock {id : Nat} : Mt (.inBlock id) (.inBlock id)
  | inLoop {c : Code} {m : MC} : cC P ows n c = some m → Mt (.inLoop m) (.inLoop c)
inductive Mts : List MI → List Item → Prop
  | nil : Mts [] []
  | cons {x : MI} {y : Item} {k : List MI} {l : List Item} : Mt P ows n x y → Mts k l → Mts (x :: k) (y :: l)
  | stop {k : List MI} {l : List Item} : Mts k l → Mts (.stop :: k) l
end

/-- A function: its number, the cuts that take a row over, how many slots, which hold the results. -/
structure Fd where
  f : FuncId
  ows : List Nat
  n : Nat
  rs : List Nat

/-- What is to come out: the result, the rows; how many rows were handed over. -/
structure Gl where
  nin : Nat
  res : AV
  H' : Heap

def Done (P : Program) (C : Cx) (G : Gl) (v : Value) (W' : World) : Prop :=
  ∃ hdr' ow', Mem C W' G.H' hdr' ow' ∧ RepA W' (OK C W' G.H' ow') hdr' G.H' G.res v ∧ ∀ k, k < G.nin → ∀ e', find G.H' k = some e' → hdr' k = C.hdr0 k

/-- Which slot a result comes out of (a place that is read at the end: its slot, its type, its cells in one number). -/
def resOf (P : Program) : ResultVar → Option Nat
  | .tmp t => if t < 1000000 then some t else none
  | .cell a t => if a < 1000000 ∧ t < 999999 ∧ knownT P t = true then some (a + 1000000 * (t + 1) + 1000000000000 * (2 * szT P t + (if aggT P t = true then 1 else 0))) else none

def FnIs (P : Program) (D : Fd) (fn : Func) : Prop := P.funcs[D.f]? = some fn ∧ mapO (resOf P) fn.results.toList = some D.rs

/-- From the state s on, with the code k ahead, the function comes to G. -/
def Run (P : Program) (D : Fd) (G : Gl) (k : List MI) (s : St) : Prop :=
  ∀ (C : Cx) (fn : Func) (a : Act) (W : World) (hdr : Nat → Value) (ow : Nat → Option Nat) (items : List Item), C.nin = G.nin → FnIs P D fn → RelAt C D.n (· < s.nx) s a W hdr ow → Mts P D.ows D.n k items →
    ∀ (b : Frame) (cs : List Frame), b.fn = D.f → b.kind = .normal → ∃ v W' fr, Done P C G v W' ∧ Steps P (lone (b.at a items) cs W) (lone fr cs W') ∧ fr.fn = D.f ∧ fr.leaving P W' (.returned v)

section
variable {P : Program} {D : Fd} {G : Gl} {k : List MI} {s : St}

theorem Run.step {k' : List MI} (h : Run P D G k' s)
    (hs : ∀ (a : Act) (W : World) (items : List Item) (b : Frame) (cs : List Frame) (C : Cx) (hdr : Nat → Value) (ow : Nat → Option Nat), RelAt C D.n (· < s.nx) s a W hdr ow → Mts P D.ows D.n k items →
      ∃ items', Mts P D.ows D.n k' items' ∧ Steps P (lone (b.at a items) cs W) (lone (b.at a items') cs W)) : Run P D G k s := by
  intro C fn a W hdr ow items hC hfn r hm b cs hb hbk
  obtain ⟨items', h1, h2⟩ := hs a W items b cs C hdr ow r hm
  obtain ⟨v, W', fr, q1, q2, q3⟩ := h C fn a W hdr ow items' hC hfn r h1 b cs hb hbk
  exact ⟨v, W', fr, q1, h2.trans q2, q3⟩

theorem Run.skip (h : Run P D G k s) : Run P D G (.code .skip :: k) s := h.step fun a W items b cs C hdr ow r hm => by
  cases hm with
  | cons hx hk =>
    cases hx with
    | code hc =>
      rename_i l c
      cases c <;> simp only [cC] at hc <;> try (first | (cases hc; done) | (repeat (first | (split at hc) | cases hc)))
      · exact ⟨_, hk, .one step_skip⟩
      · obtain ⟨_, _, hc⟩ := Option.map_eq_some_iff.1 hc; cases hc
      · obtain ⟨_, _, hc⟩ := Option.map_eq_some_iff.1 hc; cases hc

/-- What code a reading is of. -/
theorem cC_inv {P : Program} {ows : List Nat} {n : Nat} {c : Code} {m : MC} (h : cC P ows n c = some m) :
    match m with
    | .skip => c = .skip
    | .reg q L => ∃ id ops, c = .region id ops q ∧ mapO (cO P ows n ops) ops.toList = some L ∧ distinctB L = true ∧ (q = true → drawB ops L = true ∧ P.follows .mixedOrders = true)
    | .seq a b => ∃ a' b', c = .seq a' b' ∧ cC P ows n a' = some a ∧ cC P ows n b' = some b
    | .cond x a b => ∃ x' a' b', c = .cond x' a' b' ∧ opd P 0 x' = some x ∧ cC P ows n a' = some a ∧ cC P ows n b' = some b
    | .block id b => ∃ b', c = .block id b' ∧ cC P ows n b' = some b
    | .loop b => ∃ b', c = .loop b' ∧ cC P ows n b' = some b
    | .exit id => c = .exit id
    | .ret => c = .ret
    | .bad => True := by
  cases c with
  | skip => simp only [cC] at h; cases h; rfl
  | region id ops draw =>
    simp only [cC] at h
    split at h
    · rename_i L hL
      split at h
      · rename_i hh; cases h; exact ⟨id, ops, rfl, hL, hh.1, hh.2⟩
      · cases h
    · split at h
      · cases h; trivial
      · cases h
  | seq a b =>
    simp only [cC] at h
    split at h
    · rename_i x y h1 h2; cases h; exact ⟨a, b, rfl, h1, h2⟩
    · cases h
  | cond c a b =>
    simp only [cC] at h
    split at h
    · rename_i x y z h1 h2 h3; cases h; exact ⟨c, a, b, rfl, h1, h2, h3⟩
    · cases h
  | block id b => simp only [cC] at h; obtain ⟨x, h1, rfl⟩ := Option.map_eq_some_iff.1 h; exact ⟨b, rfl, h1⟩
  | loop b => simp only [cC] at h; obtain ⟨x, h1, rfl⟩ := Option.map_eq_some_iff.1 h; exact ⟨b, rfl, h1⟩
  | exit id => simp only [cC] at h; cases h; rfl
  | ret => simp only [cC] at h; cases h; rfl
  | _ => simp [cC] at h

theorem Run.seq {x y : MC} (h : Run P D G (.code x :: .code y :: k) s) : Run P D G (.code (.seq x y) :: k) s := h.step fun a W items b cs C hdr ow r hm => by
  cases hm with
  | cons hx hk => cases hx with
    | code hc =>
      obtain ⟨a', b', rfl, h1, h2⟩ := cC_inv hc
      exact ⟨_, .cons (.code h1) (.cons (.code h2) hk), .one step_seq⟩

theorem Run.cond {c : Opd} {x y : MC} {t : Bool} (hc : ev s.env c = some (.v (.w (.bool t)))) (h1 : t = true → Run P D G (.code x :: k) s) (h2 : t = false → Run P D G (.code y :: k) s) : Run P D G (.code (.cond c x y) :: k) s := by
  have key : Run P D G (.code (if t = true then x else y) :: k) s := by cases t; exact h2 rfl; exact h1 rfl
  refine key.step fun a W items b cs C hdr ow r hm => ?_
  cases hm with
  | cons hx hk => cases hx with
    | code hcc =>
      obtain ⟨x', a', b', rfl, g1, g2, g3⟩ := cC_inv hcc
      have hv := (opd_ok r g1 hc).1
      simp only [RepA] at hv
      refine ⟨_, .cons (.code (c := if t = true then a' else b') ?_) hk, .one ?_⟩
      · cases t; exact g3; exact g2
      · exact step_cond hv.wInv.1

/-- A test of which nothing is known. -/
theorem Run.condU {c : Opd} {x y : MC} (hc : ev s.env c = some .ub) (h1 : Run P D G (.code x :: k) s) (h2 : Run P D G (.code y :: k) s) : Run P D G (.code (.cond c x y) :: k) s := by
  intro C fn a W hdr ow items hC hfn r hm b cs hb hbk
  cases hm with
  | cons hx hk => cases hx with
    | code hcc =>
      obtain ⟨x', a', b', rfl, g1, g2, g3⟩ := cC_inv hcc
      have hv := (opd_ok r g1 hc).1
      simp only [RepA] at hv
      obtain ⟨t, ht⟩ := hv
      cases t
      · obtain ⟨v, W', fr, q1, q2, q3⟩ := h2 C fn a W hdr ow _ hC hfn r (.cons (.code g3) hk) b cs hb hbk
        exact ⟨v, W', fr, q1, (Steps.one (step_cond ht)).trans q2, q3⟩
      · obtain ⟨v, W', fr, q1, q2, q3⟩ := h1 C fn a W hdr ow _ hC hfn r (.cons (.code g2) hk) b cs hb hbk
        exact ⟨v, W', fr, q1, (Steps.one (step_cond ht)).trans q2, q3⟩

theorem Run.block {id : Nat} {x : MC} (h : Run P D G (.code x :: .inBlock id :: k) s) : Run P D G (.code (.block id x) :: k) s := h.step fun a W items b cs C hdr ow r hm => by
  cases hm with
  | cons hx hk => cases hx with
    | code hc =>
      obtain ⟨b', rfl, h1⟩ := cC_inv hc
      exact ⟨_, .cons (.code h1) (.cons .inBlock hk), .one step_block⟩

theorem Run.inBlock {id : Nat} (h : Run P D G k s) : Run P D G (.inBlock id :: k) s := h.step fun a W items b cs C hdr ow r hm => by
  cases hm with
  | cons hx hk => cases hx with
    | inBlock => exact ⟨_, hk, .one step_inBlock⟩

theorem Run.loop {x : MC} (h : Run P D G (.code x :: .inLoop x :: k) s) : Run P D G (.code (.loop x) :: k) s := h.step fun a W items b cs C hdr ow r hm => by
  cases hm with
  | cons hx hk => cases hx with
    | code hc =>
      obtain ⟨b', rfl, h1⟩ := cC_inv hc
      exact ⟨_, .cons (.code h1) (.cons (.inLoop h1) hk), .one step_loop⟩

theorem Run.inLoop {x : MC} (h : Run P D G (.code x :: .inLoop x :: k) s) : Run P D G (.inLoop x :: k) s := h.step fun a W items b cs C hdr ow r hm => by
  cases hm with
  | cons hx hk => cases hx with
    | inLoop hc => exact ⟨_, .cons (.code hc) (.cons (.inLoop hc) hk), .one step_inLoop⟩

theorem mexit_ok {P : Program} {ows : List Nat} {n id : Nat} : ∀ {k k' : List MI} {items : List Item}, mexit id k = some k' → Mts P ows n k items → ∃ items', exitTo id items = some items' ∧ Mts P ows n k' items'
  | [], _, _, h, _ => by simp [mexit] at h
  | x :: k, k', _, h, .cons hx hk => by
    cases hx with
    | code hc => simp only [mexit] at h; obtain ⟨i, h1, h2⟩ := mexit_ok h hk; exact ⟨i, by simpa [exitTo] using h1, h2⟩
    | inLoop hc => simp only [mexit] at h; obtain ⟨i, h1, h2⟩ := mexit_ok h hk; exact ⟨i, by simpa [exitTo] using h1, h2⟩
    | inBlock =>
      simp only [mexit] at h
      split at h
      · rename_i hj; cases h; exact ⟨_, by simp [exitTo, hj], hk⟩
      · rename_i hj
        obtain ⟨i, h1, h2⟩ := mexit_ok h hk
        exact ⟨i, by simp [exitTo, hj, h1], h2⟩
  | _, k', _, h, .stop hk => by
    simp only [mexit] at h
    obtain ⟨k'', h3, rfl⟩ := Option.map_eq_some_iff.1 h
    obtain ⟨i, h1, h2⟩ := mexit_ok h3 hk
    exact ⟨i, h1, .stop h2⟩

theorem Run.stop (h : Run P D G k s) : Run P D G (.stop :: k) s := by
  intro C fn a W hdr ow items hC hfn r hm b cs hb hbk
  cases hm with
  | cons hx _ => cases hx
  | stop hk => exact h C fn a W hdr ow items hC hfn r hk b cs hb hbk

theorem Run.unstop (h : Run P D G (.stop :: k) s) : Run P D G k s := by
  intro C fn a W hdr ow items hC hfn r hm b cs hb hbk
  exact h C fn a W hdr ow items hC hfn r (.stop hm) b cs hb hbk

theorem Run.exit {id : Nat} {k' : List MI} (he : mexit id k = some k') (h : Run P D G k' s) : Run P D G (.code (.exit id) :: k) s := h.step fun a W items b cs C hdr ow r hm => by
  cases hm with
  | cons hx hk => cases hx with
    | code hc =>
      have hc' := cC_inv hc
      simp only at hc'
      subst hc'
      obtain ⟨i, h1, h2⟩ := mexit_ok he hk
      exact ⟨i, h2, .one (step_exit h1)⟩

theorem Run.reg {q : Bool} {L : List MO} {s' : St} (hch : RChain P q s L s') (h : Run P D G k ⟨s'.env, s'.heap, s.nx + 8192⟩) : Run P D G (.code (.reg q L) :: k) s := by
  intro C fn a W hdr ow items hC hfn r hm b cs hb hbk
  cases hm with
  | cons hx hk => cases hx with
    | code hc =>
      obtain ⟨rid, ops, rfl, h1, h2, h3⟩ := cC_inv hc
      rename_i l
      have hw := reg_ok (rid := rid) (Q := fun e a' W' => e = .normal ∧ ∃ hdr' ow', RelAt C D.n (· < s.nx + 8192) ⟨s'.env, s'.heap, s.nx + 8192⟩ a' W' hdr' ow') h1 h2 h3 hch r (fun a' W' hdr' ow' r' => ⟨rfl, hdr', ow', r'⟩)
      obtain ⟨e, a', W', ⟨rfl, hdr', ow', r'⟩, harr⟩ := hw b l cs
      obtain ⟨v, W'', fr, q1, q2, q3⟩ := h C fn a' W' hdr' ow' l hC hfn r' hk b cs hb hbk
      exact ⟨v, W'', fr, q1, Go.Steps.trans harr q2, q3⟩

/-- The value that comes out of slots. -/
def resX (H : Heap) (E : Env) (r : Nat) : Option AV := if r < 1000000 then find E r else match find E (r % 1000000) with
  | some (.ptr k i o) => match find H k with
    | some e => match e.l[i]? with
      | some w => if o < e.sz then (cellRd w.cells (decide (r / 1000000000000 % 2 = 1)) o (r / 1000000000000 / 2)).map .v else none
      | none => none
    | none => none
  | _ => none
def resXs (H : Heap) (E : Env) : List Nat → Option (List AV)
  | [] => some []
  | r :: rs => match resX H E r, resXs H E rs with
    | some x, some l => some (x :: l)
    | _, _ => none
def retA (H : Heap) (E : Env) : List Nat → Option AV
  | [t] => resX H E t
  | ts => (resXs H E ts).map .tup

def passR (H : Heap) (ids : List Nat) : AV → Option AV
  | .tup l => match passAs true H ids l with
    | some l => some (.tup l)
    | none => none
  | x => passA true H ids x

/-- The function may end in the state s. -/
def Ends (D : Fd) (G : Gl) (s : St) : Prop :=
  ∃ ids x, ids.Nodup ∧ retA s.heap s.env D.rs = some x ∧ passR s.heap ids x = some G.res ∧ passH s.heap 0 ids = G.H' ∧ (∀ p ∈ G.H', p.2.sz ≠ 0) ∧ ∀ k, k < G.nin → (find G.H' k).isSome = true → ids[k]? = some k

theorem RepAs.len {W : World} {ok : Nat → Prop} {hdr : Nat → Value} {H : Heap} : ∀ {l : List AV} {vs : List Value}, RepAs W ok hdr H l vs → vs.length = l.length
  | [], [], _ => rfl
  | [], _ :: _, h => by simp [RepAs] at h
  | _ :: _, [], h => by simp [RepAs] at h
  | _ :: l, _ :: vs, h => by simp only [RepAs] at h; simp [RepAs.len h.2]

/-- A result, as the machine reads it at the end. -/
def resRun (tmps : Array Value) : ResultVar → Sem Value
  | .tmp t => pure (tmps.getD t undef)
  | .cell a t => do loadVar t (← asAddr (tmps.getD a undef))

theorem resX_ok {C : Cx} {n : Nat} {F : Nat → Prop} {s : St} {a : Act} {W : World} {hdr : Nat → Value} {ow : Nat → Option Nat} (r : RelAt C n F s a W hdr ow) {rv : ResultVar} {k : Nat} {x : AV} (hk : resOf P rv = some k) (hx : resX s.heap s.env k = some x) :
    ∃ v, (resRun a.tmps rv).run P W = .ok v W ∧ RepA W (OK C W s.heap ow) hdr s.heap x v := by
  cases rv with
  | tmp t =>
    simp only [resOf] at hk
    split at hk
    · rename_i ht
      cases hk
      unfold resX at hx
      rw [if_pos ht] at hx
      exact ⟨_, by simp [resRun], r.env _ _ hx⟩
    · cases hk
  | cell c t =>
    simp only [resOf] at hk
    split at hk
    · rename_i hh
      obtain ⟨h1, h2, h3⟩ := hh
      have h1' : @LT.lt Nat instLTNat c 1000000 := h1
      have h2' : @LT.lt Nat instLTNat t 999999 := h2
      clear h1 h2
      simp only [Option.some.injEq] at hk
      have e4 : k / 1000000000000 = 2 * szT P t + (if aggT P t = true then 1 else 0) := by
        rw [← hk, Nat.add_mul_div_left _ _ (by decide), Nat.div_eq_of_lt (by omega), Nat.zero_add]
      have e1 : k % 1000000 = c := by
        rw [← hk, show 1000000000000 * (2 * szT P t + (if aggT P t = true then 1 else 0)) = 1000000 * (1000000 * (2 * szT P t + (if aggT P t = true then 1 else 0))) by rw [← Nat.mul_assoc], Nat.add_mul_mod_self_left, Nat.add_mul_mod_self_left, Nat.mod_eq_of_lt h1']
      have hge : ¬ k < 1000000 := by
        rw [← hk]
        have : 1000000 * 1 ≤ 1000000 * (t + 1) := Nat.mul_le_mul_left _ (by omega)
        omega
      unfold resX at hx
      rw [if_neg hge] at hx
      have e2 : k / 1000000000000 / 2 = szT P t := by
        rw [e4]; split <;> omega
      have e3 : decide (k / 1000000000000 % 2 = 1) = aggT P t := by
        rw [e4]
        cases ha : aggT P t
        · simp
        · simp
      rw [e1, e2, e3] at hx
      split at hx
      · rename_i q i o hf
        split at hx
        · rename_i e he
          split at hx
          · rename_i w hw
            split at hx
            · rename_i ho
              obtain ⟨p, hp, rfl⟩ := Option.map_eq_some_iff.1 hx
              obtain ⟨b, o', v, g1, g2, g3⟩ := run_ld_p r h3 (r.env _ _ hf) he hw ho hp
              refine ⟨v, ?_, by simp only [RepA]; exact g3⟩
              simp [resRun, asAddr, g1, g2]
            · cases hx
          · cases hx
        · cases hx
      · cases hx
    · cases hk

theorem resXs_ok {C : Cx} {n : Nat} {F : Nat → Prop} {s : St} {a : Act} {W : World} {hdr : Nat → Value} {ow : Nat → Option Nat} (r : RelAt C n F s a W hdr ow) : ∀ {rvs : List ResultVar} {ks : List Nat} {l : List AV}, mapO (resOf P) rvs = some ks → resXs s.heap s.env ks = some l →
    ∃ vs, (rvs.mapM (resRun a.tmps)).run P W = .ok vs W ∧ RepAs W (OK C W s.heap ow) hdr s.heap l vs
  | [], ks, l, h, hx => by
    simp only [mapO, Option.some.injEq] at h
    subst h
    simp only [resXs, Option.some.injEq] at hx
    subst hx
    exact ⟨[], by simp, by simp [RepAs]⟩
  | rv :: rvs, ks, l, h, hx => by
    simp only [mapO] at h
    split at h
    · rename_i k ks' h1 h2
      cases h
      simp only [resXs] at hx
      split at hx
      · rename_i x xs q1 q2
        cases hx
        obtain ⟨v, g1, g2⟩ := resX_ok r h1 q1
        obtain ⟨vs, g3, g4⟩ := resXs_ok r h2 q2
        exact ⟨v :: vs, by simp [List.mapM_cons, g1, g3], by simp only [RepAs]; exact ⟨g2, g4⟩⟩
      · cases hx
    · cases h

theorem run_results {fn : Func} {tmps : Array Value} {W : World} {vs : List Value} (h : (fn.results.toList.mapM (resRun tmps)).run P W = .ok vs W) : (results fn tmps).run P W = .ok (match vs with | [v] => v | vs => .tuple vs.toArray) W := by
  have h1 : (fn.results.mapM (resRun tmps)).run P W = .ok vs.toArray W := by
    rw [Array.mapM_eq_mapM_toList]
    simp [h]
  have h2 : results fn tmps = (do let vs ← fn.results.mapM (resRun tmps); pure (if h : vs.size = 1 then vs[0] else .tuple vs)) := rfl
  rw [h2]
  simp only [Sem.run_bind, h1, Result.andThen_ok, Sem.run_pure]
  match vs with
  | [] => simp
  | [v] => simp
  | _ :: _ :: _ => simp

theorem retA_ok {C : Cx} {n : Nat} {F : Nat → Prop} {s : St} {a : Act} {W : World} {hdr : Nat → Value} {ow : Nat → Option Nat} (r : RelAt C n F s a W hdr ow) {fn : Func} {rs : List Nat} {x : AV} (h : mapO (resOf P) fn.results.toList = some rs) (hx : retA s.heap s.env rs = some x) :
    ∃ v, (results fn a.tmps).run P W = .ok v W ∧ RepA W (OK C W s.heap ow) hdr s.heap x v := by
  have key : ∀ l, resXs s.heap s.env rs = some l → (match l with | [y] => y | l => .tup l) = x → ∃ v, (results fn a.tmps).run P W = .ok v W ∧ RepA W (OK C W s.heap ow) hdr s.heap x v := by
    intro l hl hxl
    obtain ⟨vs, g1, g2⟩ := resXs_ok r h hl
    refine ⟨_, run_results g1, ?_⟩
    have hlen := RepAs.len g2
    match l, vs, g2, hlen with
    | [], [], g2, _ => simp only at hxl; subst hxl; simp only [RepA]; exact ⟨[], rfl, g2⟩
    | [y], [v], g2, _ => simp only at hxl; subst hxl; simp only [RepAs] at g2; exact g2.1
    | y :: z :: l, v :: w :: vs, g2, _ => simp only at hxl; subst hxl; simp only [RepA]; exact ⟨_, rfl, g2⟩
    | [], _ :: _, _, hl => simp at hl
    | [_], [], _, hl => simp at hl
    | [_], _ :: _ :: _, _, hl => simp at hl
    | _ :: _ :: _, [], _, hl => simp at hl
    | _ :: _ :: _, [_], _, hl => simp at hl
  match rs, hx, key with
  | [], hx, key =>
    simp only [retA, resXs, Option.map_some, Option.some.injEq] at hx
    exact key [] rfl hx
  | [t], hx, key =>
    simp only [retA] at hx
    exact key [x] (by simp only [resXs, hx]) rfl
  | t :: u :: ts, hx, key =>
    simp only [retA] at hx
    obtain ⟨l, hl, rfl⟩ := Option.map_eq_some_iff.1 hx
    refine key l hl ?_
    simp only [resXs] at hl
    split at hl
    · rename_i q1 q2 q3 q4
      cases hl
      split at q4
      · cases q4; rfl
      · cases q4
    · cases hl

theorem fin_ok {C : Cx} {a : Act} {W : World} {hdr : Nat → Value} {ow : Nat → Option Nat} (hC : C.nin = G.nin) (r : RelAt C D.n (· < s.nx) s a W hdr ow) (h : Ends D G s) {fn : Func} (hfn : FnIs P D fn) : ∃ v, (results fn a.tmps).run P W = .ok v W ∧ Done P C G v W := by
  obtain ⟨ids, x, hn, hx, hp, hH, hsz, hnin⟩ := h
  have hfound : ∀ k e, find G.H' k = some e → ∃ id, ids[k]? = some id ∧ find s.heap id = some e := fun k e hk => by rw [← hH] at hk; exact find_in hk
  have hown : ∀ j, Own G.H' (owI ow ids) j → ∃ id e, id ∈ ids ∧ find s.heap id = some e ∧ ow id = some j := by
    rintro j ⟨k, e, hk, ho⟩
    obtain ⟨id, h1, h2⟩ := hfound k e hk
    simp only [owI, h1] at ho
    exact ⟨id, e, List.mem_of_getElem? h1, h2, ho⟩
  have hok : ∀ j, OK C W s.heap ow j → OK C W G.H' (owI ow ids) j := by
    rintro j ⟨h1, h2⟩
    refine ⟨h1, fun h => ?_⟩
    obtain ⟨id, e, _, q1, q2⟩ := hown j h
    exact h2 ⟨id, e, q1, q2⟩
  have hokb : true = true → ∀ id e j, id ∉ ids → find s.heap id = some e → ow id = some j → OK C W G.H' (owI ow ids) j := by
    intro _ id e j hni he hj
    have hlt := r.mem.lt id e j he hj
    refine ⟨⟨.inr hlt.2, hlt.1⟩, fun h => ?_⟩
    obtain ⟨id', e', q0, q1, q2⟩ := hown j h
    have := r.mem.inj id id' e e' j he q1 hj q2
    subst this; exact hni q0
  obtain ⟨v, hrun, hret⟩ := retA_ok r hfn.2 hx
  refine ⟨v, hrun, ?_⟩
  refine ⟨hdrI hdr ids, owI ow ids, ⟨?_, ?_, ?_, r.mem.size, r.mem.frame, r.mem.os, r.mem.tape, r.mem.output⟩, ?_, ?_⟩
  · intro k e he
    obtain ⟨id, h1, h2⟩ := hfound k e he
    simp only [hdrI, owI, h1]
    exact (r.mem.ent id e h2).mono (fun j hj => ⟨hok j hj, rfl⟩) (fun _ _ => rfl) (fun c hc => (Ent.refs_none (hsz _ (find_mem he)) hc).elim)
  · intro k k' e e' b hk hk' hb hb'
    obtain ⟨id, h1, h2⟩ := hfound k e hk
    obtain ⟨id', h1', h2'⟩ := hfound k' e' hk'
    simp only [owI, h1] at hb
    simp only [owI, h1'] at hb'
    have := r.mem.inj id id' e e' b h2 h2' hb hb'
    subst this
    obtain ⟨g1, g2⟩ := List.getElem?_eq_some_iff.1 h1
    obtain ⟨g3, g4⟩ := List.getElem?_eq_some_iff.1 h1'
    exact (List.getElem_inj hn).1 (g2.trans g4.symm)
  · intro k e b hk hb
    obtain ⟨id, h1, h2⟩ := hfound k e hk
    simp only [owI, h1] at hb
    exact r.mem.lt id e b h2 hb
  · have := hret
    have hpass := fun (y : AV) (v : Value) (z : AV) (hz : passA true s.heap ids y = some z) (hv : RepA W (OK C W s.heap ow) hdr s.heap y v) => passA_ok (ids := ids) r hok hokb y z v hz hv
    rw [hH] at hpass
    unfold passR at hp
    split at hp
    · rename_i l
      split at hp
      · rename_i l' hl'
        simp only [Option.some.injEq] at hp
        rw [← hp]
        simp only [RepA] at hret ⊢
        obtain ⟨vs, h1, h2⟩ := hret
        have := passAs_ok (ids := ids) r hok hokb l l' vs hl' h2
        rw [hH] at this
        exact ⟨vs, h1, this⟩
      · cases hp
    · exact hpass _ _ _ hp hret
  · intro k hk e' he'
    have h1 := hnin k hk (by rw [he']; rfl)
    obtain ⟨id, h2, h3⟩ := hfound k e' he'
    rw [h1] at h2; cases h2
    simp only [hdrI, h1]
    exact r.gh k (by rw [hC]; exact hk) e' h3

theorem Run.ret (hl : D.rs.length ≤ 4) (h : Ends D G s) : Run P D G (.code .ret :: k) s := by
  intro C fn a W hdr ow items hC hfn r hm b cs hb hbk
  cases hm with
  | cons hx hk => cases hx with
    | code hc =>
      have hc' := cC_inv hc
      simp only at hc'
      subst hc'
      obtain ⟨v, hrun, hdone⟩ := fin_ok hC r h hfn
      refine ⟨v, W, _, hdone, .one step_ret, hb, rfl, r.defers, hbk, fn, ?_, hrun⟩
      have := hfn.1
      rw [← hb] at this; exact this

theorem Run.done (hl : D.rs.length ≤ 4) (h : Ends D G s) : Run P D G [] s := by
  intro C fn a W hdr ow items hC hfn r hm b cs hb hbk
  cases hm
  obtain ⟨v, hrun, hdone⟩ := fin_ok hC r h hfn
  refine ⟨v, W, _, hdone, .one step_end, hb, rfl, r.defers, hbk, fn, ?_, hrun⟩
  have := hfn.1
  rw [← hb] at this; exact this

/-- The slots at the beginning. -/
def envOf : Nat → List AV → Env
  | _, [] => []
  | i, x :: l => (i, x) :: envOf (i + 1) l

theorem find_envOf : ∀ (l : List AV) (i t : Nat) (x : AV), find (envOf i l) t = some x → i ≤ t ∧ l[t - i]? = some x
  | [], i, t, x, h => by simp [envOf, find] at h
  | y :: l, i, t, x, h => by
    simp only [envOf, find_cons] at h
    split at h
    · rename_i ht; subst ht; cases h; simp
    · rename_i ht
      obtain ⟨h1, h2⟩ := find_envOf l (i + 1) t x h
      refine ⟨by omega, ?_⟩
      rw [show t - i = (t - (i + 1)) + 1 by omega, List.getElem?_cons_succ]; exact h2

theorem mens_mem : ∀ {l : List AV} {x : AV} {k : Nat}, x ∈ l → x.men k → AV.mens l k
  | y :: l, x, k, h, hk => by
    rcases List.mem_cons.1 h with rfl | h
    · simp [AV.mens, hk]
    · simp [AV.mens, mens_mem h hk]

/-- A function comes to what its code runs to. -/
theorem FOk.intro {f : FuncId} {fn : Func} {c : Code} {m : MC} {args : List AV} {H : Heap} (hfn : P.funcs[f]? = some fn) (hcall : ∀ (as : Array Value) (W : World), (callFunc f as).run P W = .ok (.enter f as) W)
    (hb : fn.body = some c) (ows rs : List Nat) (hr : mapO (resOf P) fn.results.toList = some rs) (hc : cC P ows fn.ntmps c = some m) (hargs : args.length ≤ fn.ntmps) (nin : Nat) (hnin : nin ≤ 1024)
    (hH : ∀ p ∈ H, p.1 < nin ∧ p.2.sz ≠ 0) (hmen : ∀ k, AV.mens args k → k < 1024) {res : AV} {H' : Heap} (hsz : ∀ k e e', find H k = some e → find H' k = some e' → e'.sz = e.sz)
    (h : Run P ⟨f, ows, fn.ntmps, rs⟩ ⟨nin, res, H'⟩ [.code m] ⟨envOf 0 args, H, 1024⟩) : FOk P f args H res H' := by
  refine ⟨hcall, ?_⟩
  intro W ok0 vals hdr ow hmem hrep cs
  have hlen := hrep.len
  let C : Cx := ⟨W, ok0, Own H ow, nin, hdr⟩
  let a : Act := { tmps := vals.toArray ++ Array.replicate (fn.ntmps - vals.toArray.size) undef, defers := [] }
  have hslot : ∀ (t : Nat) (x : AV), args[t]? = some x → ∃ v, vals[t]? = some v ∧ RepA W (OK C W H ow) hdr H x v := fun t x hx => RepAs.get hrep hx
  have r0 : RelAt C fn.ntmps (· < 1024) ⟨envOf 0 args, H, 1024⟩ a W hdr ow := by
    refine ⟨⟨hmem.ent, hmem.inj, hmem.lt, hmem.size, hmem.frame, hmem.os, hmem.tape, hmem.output⟩, rfl, ?_, ?_, ?_, ?_, ?_, ?_, ?_⟩
    · simp only [a, Array.size_append, List.size_toArray, Array.size_replicate]; omega
    · intro t x hx
      obtain ⟨_, h1⟩ := find_envOf args 0 t x hx
      rw [Nat.sub_zero] at h1
      obtain ⟨v, hv, hrx⟩ := hslot t x h1
      have ht : t < vals.length := (List.getElem?_eq_some_iff.1 hv).1
      have : a.tmps.getD t undef = v := by
        simp only [a, Array.getD_eq_getD_getElem?]
        rw [Array.getElem?_append_left (by simpa using ht)]
        simp [hv]
      rw [this]; exact hrx
    · intro t x hx k hk
      obtain ⟨_, h1⟩ := find_envOf args 0 t x hx
      exact hmen k (mens_mem (List.mem_of_getElem? h1) hk)
    · intro id e he
      have := (hH _ (find_mem he)).1
      simp only at this
      omega
    · intro k hk; show k < 1024; have : k < nin := hk; omega
    · intro k _ e _; rfl
    · intro id e c he hc; exact (Ent.refs_none (hH _ (find_mem he)).2 hc).elim
  let b : Frame := { (default : Frame) with fn := f, kind := .normal }
  have henter : Frame.enter P f vals.toArray .normal = b.at a [.code c] := by
    simp [Frame.enter, Frame.at, hfn, hb, b, a]
  obtain ⟨v, W', fr, ⟨hdr', ow', q1, q2, q3⟩, q4, q5, q6⟩ := h C fn a W hdr ow [.code c] rfl ⟨hfn, hr⟩ r0 (.cons (.code hc) .nil) b cs rfl rfl
  rw [← henter] at q4
  refine ⟨.returned v, W', fr, ⟨v, hdr', ow', rfl, ⟨q1.ent, q1.inj, q1.lt, q1.size, q1.frame, q1.os, q1.tape, q1.output⟩, q2, ?_⟩, q4, q5, q6⟩
  intro k e e' hk hk'
  have hkn := hH _ (find_mem hk)
  exact ⟨q3 k hkn.1 e' hk', hsz k e e' hk hk'⟩

end
end Go.AM
/- Running through the code by reckoning. -/
set_option linter.all false
namespace Go.AM
open Go
variable [dr : Inhabited Prop]

/-- What is being done: code ahead; operations of a region; a guard; a value to be put; a store; a test. -/
inductive Md where
  | ctl
  | ops (q : Bool) (L : List MO)
  | gd (r : Option Bool) (o : MO) (q : Bool) (L : List MO)
  | put (d : Nat) (r : Option (AV × Heap)) (q : Bool) (L : List MO)
  | sto (r : Option (AV × Heap)) (q : Bool) (L : List MO)
  | cnd (r : Option AV) (a b : MC)

/-- A truth that is tested is known behind the test. -/
def repl : Env → Nat → Bool → Env
  | [], _, _ => []
  | (k, x) :: E, g, b => if g = k then (match x with | .v (.w (.bool _)) => (k, .v (.w (.bool b))) :: E | _ => (k, x) :: E) else (k, x) :: repl E g b

def setG (E : Env) : Option (Nat × Bool) → Bool → Env
  | none, _ => E
  | some (g, w), t => repl E g (t == w)

theorem repl_eq : ∀ {E : Env} {g : Nat} {b : Bool}, find E g = some (.v (.w (.bool b))) → repl E g b = E
  | [], _, _, h => rfl
  | (k, x) :: E, g, b, h => by
    simp only [find] at h
    simp only [repl]
    split at h
    · rename_i hk; cases h; rw [if_pos hk]
    · rename_i hk; rw [if_neg hk, repl_eq h]

theorem repl_no : ∀ {E : Env} {g : Nat} {b : Bool} {x : AV}, find E g = some x → (∀ b', x ≠ .v (.w (.bool b'))) → repl E g b = E
  | [], _, _, _, h, _ => rfl
  | (k, y) :: E, g, b, x, h, hx => by
    simp only [find] at h
    simp only [repl]
    split at h
    · rename_i hk
      cases h
      rw [if_pos hk]
      split
      · exact absurd rfl (hx _)
      · rfl
    · rename_i hk; rw [if_neg hk, repl_no h hx]

theorem setG_eq {E : Env} {g : Option (Nat × Bool)} {t : Bool} (h : guardOf E g = some t) : setG E g t = E := by
  cases g with
  | none => rfl
  | some p =>
    obtain ⟨g, w⟩ := p
    simp only [guardOf] at h
    split at h
    · rename_i b hb
      cases h
      simp only [setG]
      apply repl_eq
      rw [hb]
      cases b <;> cases w <;> rfl
    · rename_i l hb
      exact repl_no hb (by intro b; simp)
    · cases h

def CallX (P : Program) (q : Bool) (s : St) (d : Nat) (f : Opd) (as : List Opd) (s' : St) : Prop :=
  (∃ x N, CallQ P s d f as x N ∧ s' = ⟨(d, x) :: s.env, N ++ s.heap, s.nx⟩) ∨ (q = false ∧ CallOk P s d f as s')

def Ex (P : Program) (D : Fd) (G : Gl) : Nat → Md → List MI → St → Prop
  | 0, .ctl, k, s => Run P D G k s
  | 0, _, _, _ => False
  | _ + 1, .ctl, [], s => Ends D G s
  | m + 1, .ctl, .code c :: k, s => match c with
    | .ret => Ends D G s
    | .bad => False
    | .skip => Ex P D G m .ctl k s
    | .seq a b => Ex P D G m .ctl (.code a :: .code b :: k) s
    | .cond c a b => Ex P D G m (.cnd (ev s.env c) a b) k s
    | .block id b => Ex P D G m .ctl (.code b :: .inBlock id :: k) s
    | .exit id => match mexit id k with
      | some k' => Ex P D G m .ctl k' s
      | none => False
    | .reg q L => Ex P D G m (.ops q L) k s
    | .loop b => Run P D G (.code (.loop b) :: k) s
  | m + 1, .ctl, .inBlock _ :: k, s => Ex P D G m .ctl k s
  | _ + 1, .ctl, .inLoop b :: k, s => Run P D G (.inLoop b :: k) s
  | _ + 1, .ctl, .stop :: k, s => Run P D G k s
  | m + 1, .cnd r a b, k, s => match r with
    | some (.v (.w (.bool t))) => (t = true → Ex P D G m .ctl (.code a :: k) s) ∧ (t = false → Ex P D G m .ctl (.code b :: k) s)
    | some .ub => Ex P D G m .ctl (.code a :: k) s ∧ Ex P D G m .ctl (.code b :: k) s
    | _ => False
  | m + 1, .ops q L, k, s => match L with
    | [] => Ex P D G m .ctl k ⟨s.env, s.heap, s.nx + 8192⟩
    | o :: L => Ex P D G m (.gd (guardOf s.env o.g) o q L) k s
  | m + 1, .gd r o q L, k, s => match r with
    | some t => (t = true → match o with
        | .op _ d mo => Ex P D G m (.put d (mval (q && !o.loud) (setG s.env o.g true) s.heap (s.nx + d) mo) q L) k ⟨setG s.env o.g true, s.heap, s.nx⟩
        | .store _ agg sz x v => Ex P D G m (.sto (mval (q && !o.loud) (setG s.env o.g true) s.heap s.nx (.stt agg sz x v)) q L) k ⟨setG s.env o.g true, s.heap, s.nx⟩
        | .call _ d f as => ∃ s', CallX P q ⟨setG s.env o.g true, s.heap, s.nx⟩ d f as s' ∧ Ex P D G m (.ops q L) k s') ∧
      (t = false → match o.dst with
        | some d => Ex P D G m (.ops q L) k ⟨(d, .tup []) :: setG s.env o.g false, s.heap, s.nx⟩
        | none => Ex P D G m (.ops q L) k ⟨setG s.env o.g false, s.heap, s.nx⟩)
    | none => False
  | m + 1, .put d r q L, k, s => match r with
    | some (x, H') => Ex P D G m (.ops q L) k ⟨(d, x) :: s.env, H', s.nx⟩
    | none => False
  | m + 1, .sto r q L, k, s => match r with
    | some (_, H') => Ex P D G m (.ops q L) k ⟨s.env, H', s.nx⟩
    | none => False

/-- A call, and what is ahead behind it. -/
def CallG (P : Program) (D : Fd) (G : Gl) (m : Nat) (q : Bool) (L : List MO) (k : List MI) (s : St) (d : Nat) (f : Opd) (as : List Opd) : Prop := ∃ s', CallX P q s d f as s' ∧ Ex P D G m (.ops q L) k s'

section sound
variable {P : Program} {D : Fd} {G : Gl}

/-- What each way of reckoning says. -/
def Says (P : Program) (D : Fd) (G : Gl) (md : Md) (k : List MI) (s : St) : Prop :=
  match md with
  | .ctl => Run P D G k s
  | .ops q L => ∃ s', RChain P q s L s' ∧ Run P D G k ⟨s'.env, s'.heap, s.nx + 8192⟩
  | .gd r o q L => r = guardOf s.env o.g → ∃ s', RChain P q s (o :: L) s' ∧ Run P D G k ⟨s'.env, s'.heap, s.nx + 8192⟩
  | .put d r q L => ∀ x H', r = some (x, H') → ∃ s', RChain P q ⟨(d, x) :: s.env, H', s.nx⟩ L s' ∧ Run P D G k ⟨s'.env, s'.heap, s.nx + 8192⟩
  | .sto r q L => ∀ x H', r = some (x, H') → ∃ s', RChain P q ⟨s.env, H', s.nx⟩ L s' ∧ Run P D G k ⟨s'.env, s'.heap, s.nx + 8192⟩
  | .cnd r a b => ∀ c, ev s.env c = r → Run P D G (.code (.cond c a b) :: k) s

theorem callX_step {q : Bool} {s s' : St} {g : Option (Nat × Bool)} {d : Nat} {f : Opd} {as : List Opd} (hg : guardOf s.env g = some true) (h : CallX P q s d f as s') : AStep P (q && !(MO.call g d f as).loud) s (.call g d f as) s' := by
  have e : (q && !(MO.call g d f as).loud) = q := by simp [MO.loud]
  rw [e]
  rcases h with ⟨x, N, h, rfl⟩ | ⟨rfl, h⟩
  · exact .callQ hg h
  · exact .call hg h rfl

theorem Ex.says (hl : D.rs.length ≤ 4) : ∀ (m : Nat) (md : Md) (k : List MI) (s : St), Ex P D G m md k s → Says P D G md k s := by
  intro m
  induction m with
  | zero =>
    intro md k s h
    cases md <;> simp only [Ex] at h
    exact h
  | succ m ih =>
    intro md k s h
    cases md with
    | ctl =>
      cases k with
      | nil => simp only [Ex] at h; exact Run.done hl h
      | cons x k =>
        cases x with
        | inBlock id => simp only [Ex] at h; exact (ih _ _ _ h : Run P D G k s).inBlock
        | inLoop b => simp only [Ex] at h; exact h
        | stop => simp only [Ex] at h; exact (h : Run P D G k s).stop
        | code c =>
          cases c with
          | skip => simp only [Ex] at h; exact (ih _ _ _ h : Run P D G k s).skip
          | bad => simp only [Ex] at h
          | ret => simp only [Ex] at h; exact Run.ret hl h
          | seq a b => simp only [Ex] at h; exact (ih _ _ _ h : Run P D G _ s).seq
          | block id b => simp only [Ex] at h; exact (ih _ _ _ h : Run P D G _ s).block
          | loop b => simp only [Ex] at h; exact h
          | exit id =>
            simp only [Ex] at h
            split at h
            · rename_i k' hk; exact (ih _ _ _ h : Run P D G _ s).exit hk
            · exact h.elim
          | reg q L =>
            simp only [Ex] at h
            obtain ⟨s', h1, h2⟩ := (ih _ _ _ h : ∃ s', RChain P q s L s' ∧ Run P D G k ⟨s'.env, s'.heap, s.nx + 8192⟩)
            exact Run.reg h1 h2
          | cond c a b =>
            simp only [Ex] at h
            exact ih _ _ _ h c rfl
    | cnd r a b =>
      intro c hc
      simp only [Ex] at h
      split at h
      · rename_i t
        exact Run.cond hc (fun ht => ih _ _ _ (h.1 ht)) (fun ht => ih _ _ _ (h.2 ht))
      · exact Run.condU hc (ih _ _ _ h.1) (ih _ _ _ h.2)
      · exact h.elim
    | ops q L =>
      simp only [Ex] at h
      cases L with
      | nil => exact ⟨s, .nil, ih _ _ _ h⟩
      | cons o L => exact ih _ _ _ h rfl
    | gd r o q L =>
      intro hr
      simp only [Ex] at h
      cases r with
      | none => exact h.elim
      | some t =>
        simp only at h
        cases t with
        | true =>
          have h1 := h.1 rfl
          rw [setG_eq hr.symm] at h1
          cases o with
          | op g d mo =>
            simp only at h1
            have h2 := ih _ _ _ h1
            cases hm : mval (q && !(MO.op g d mo).loud) s.env s.heap (s.nx + d) mo with
            | none => rw [hm] at h1; cases m <;> simp [Ex] at h1
            | some r =>
              obtain ⟨x, H'⟩ := r
              rw [hm] at h2
              obtain ⟨s', g1, g2⟩ := h2 x H' rfl
              exact ⟨s', .cons (.op hr.symm hm) g1, g2⟩
          | store g agg sz x v =>
            simp only at h1
            have h2 := ih _ _ _ h1
            cases hm : mval (q && !(MO.store g agg sz x v).loud) s.env s.heap s.nx (.stt agg sz x v) with
            | none => rw [hm] at h1; cases m <;> simp [Ex] at h1
            | some r =>
              obtain ⟨y, H'⟩ := r
              rw [hm] at h2
              obtain ⟨s', g1, g2⟩ := h2 y H' rfl
              exact ⟨s', .cons (.store hr.symm hm) g1, g2⟩
          | call g d f as =>
            obtain ⟨s1, h2, h3⟩ := h1
            have hst := callX_step (g := g) hr.symm h2
            obtain ⟨s', g1, g2⟩ := (ih _ _ _ h3 : ∃ s', RChain P q s1 L s' ∧ Run P D G k ⟨s'.env, s'.heap, s1.nx + 8192⟩)
            rw [step_nx hst] at g2
            exact ⟨s', .cons hst g1, g2⟩
        | false =>
          have h1 := h.2 rfl
          rw [setG_eq hr.symm] at h1
          cases o with
          | op g d mo =>
            obtain ⟨s', g1, g2⟩ := ih _ _ _ h1
            exact ⟨s', .cons (.skip hr.symm) g1, g2⟩
          | store g agg sz x v =>
            obtain ⟨s', g1, g2⟩ := ih _ _ _ h1
            exact ⟨s', .cons (.skipS hr.symm) g1, g2⟩
          | call g d f as =>
            obtain ⟨s', g1, g2⟩ := ih _ _ _ h1
            exact ⟨s', .cons (.skipC hr.symm) g1, g2⟩
    | put d r q L =>
      intro x H' hr
      subst hr
      simp only [Ex] at h
      exact ih _ _ _ h
    | sto r q L =>
      intro x H' hr
      subst hr
      simp only [Ex] at h
      exact ih _ _ _ h

theorem Ex.run (hl : D.rs.length ≤ 4) {m : Nat} {k : List MI} {s : St} (h : Ex P D G m .ctl k s) : Run P D G k s := Ex.says hl m .ctl k s h

end sound

/-! ### The reckoning, as equations -/
section eqs
variable {P : Program} {D : Fd} {G : Gl} {m : Nat} {k : List MI} {E : Env} {H : Heap} {nx : Nat} {q : Bool} {L : List MO} {s : St}

theorem ex_bad : Ex P D G (m + 1) .ctl (.code .bad :: k) s = False := Eq.trans rfl rfl
theorem ex_ret : Ex P D G (m + 1) .ctl (.code .ret :: k) s = Ends D G s := Eq.trans rfl rfl
theorem ex_nil : Ex P D G (m + 1) .ctl [] s = Ends D G s := Eq.trans rfl rfl
theorem ex_skip : Ex P D G (m + 1) .ctl (.code .skip :: k) s = Ex P D G m .ctl k s := Eq.trans rfl rfl
theorem ex_seq {a b : MC} : Ex P D G (m + 1) .ctl (.code (.seq a b) :: k) s = Ex P D G m .ctl (.code a :: .code b :: k) s := Eq.trans rfl rfl
theorem ex_cond {c : Opd} {a b : MC} : Ex P D G (m + 1) .ctl (.code (.cond c a b) :: k) ⟨E, H, nx⟩ = Ex P D G m (.cnd (ev E c) a b) k ⟨E, H, nx⟩ := Eq.trans rfl rfl
theorem ex_cnd {t : Bool} {a b : MC} : Ex P D G (m + 1) (.cnd (some (.v (.w (.bool t)))) a b) k s = ((t = true → Ex P D G m .ctl (.code a :: k) s) ∧ (t = false → Ex P D G m .ctl (.code b :: k) s)) := Eq.trans rfl rfl
theorem ex_block {id : Nat} {b : MC} : Ex P D G (m + 1) .ctl (.code (.block id b) :: k) s = Ex P D G m .ctl (.code b :: .inBlock id :: k) s := Eq.trans rfl rfl
theorem ex_inBlock {id : Nat} : Ex P D G (m + 1) .ctl (.inBlock id :: k) s = Ex P D G m .ctl k s := Eq.trans rfl rfl
theorem ex_exit {id : Nat} : Ex P D G (m + 1) .ctl (.code (.exit id) :: k) s = match mexit id k with | some k' => Ex P D G m .ctl k' s | none => False := Eq.trans rfl rfl
theorem ex_loop {b : MC} : Ex P D G (m + 1) .ctl (.code (.loop b) :: k) s = Run P D G (.code (.loop b) :: k) s := Eq.trans rfl rfl
theorem ex_inLoop {b : MC} : Ex P D G (m + 1) .ctl (.inLoop b :: k) s = Run P D G (.inLoop b :: k) s := Eq.trans rfl rfl
theorem ex_stop : Ex P D G (m + 1) .ctl (.stop :: k) s = Run P D G k s := Eq.trans rfl rfl
theorem ex_reg : Ex P D G (m + 1) .ctl (.code (.reg q L) :: k) s = Ex P D G m (.ops q L) k s := Eq.trans rfl rfl
theorem ex_end : Ex P D G (m + 1) (.ops q []) k ⟨E, H, nx⟩ = Ex P D G m .ctl k ⟨E, H, nx + 8192⟩ := Eq.trans rfl rfl
theorem ex_op {d : Nat} {mo : MOp} : Ex P D G (m + 2) (.ops q (.op none d mo :: L)) k ⟨E, H, nx⟩ = Ex P D G m (.put d (mval (q && !(MO.op none d mo).loud) E H (nx + d) mo) q L) k ⟨E, H, nx⟩ := by
  simp [Ex, guardOf, MO.g, setG]
theorem ex_opG {g : Nat × Bool} {d : Nat} {mo : MOp} : Ex P D G (m + 1) (.ops q (.op (some g) d mo :: L)) k ⟨E, H, nx⟩ = Ex P D G m (.gd (guardOf E (some g)) (.op (some g) d mo) q L) k ⟨E, H, nx⟩ := Eq.trans rfl rfl
theorem ex_gdO {t : Bool} {g : Option (Nat × Bool)} {d : Nat} {mo : MOp} : Ex P D G (m + 1) (.gd (some t) (.op g d mo) q L) k ⟨E, H, nx⟩ =
    ((t = true → Ex P D G m (.put d (mval (q && !(MO.op g d mo).loud) (setG E g true) H (nx + d) mo) q L) k ⟨setG E g true, H, nx⟩) ∧ (t = false → Ex P D G m (.ops q L) k ⟨(d, .tup []) :: setG E g false, H, nx⟩)) := Eq.trans rfl rfl
theorem ex_put {d : Nat} {x : AV} {H' : Heap} : Ex P D G (m + 1) (.put d (some (x, H')) q L) k ⟨E, H, nx⟩ = Ex P D G m (.ops q L) k ⟨(d, x) :: E, H', nx⟩ := Eq.trans rfl rfl
theorem ex_st {agg : Bool} {sz : Nat} {x v : Opd} : Ex P D G (m + 2) (.ops q (.store none agg sz x v :: L)) k ⟨E, H, nx⟩ = Ex P D G m (.sto (mval false E H nx (.stt agg sz x v)) q L) k ⟨E, H, nx⟩ := by
  simp [Ex, guardOf, MO.g, MO.loud, setG]
theorem ex_stG {g : Nat × Bool} {agg : Bool} {sz : Nat} {x v : Opd} : Ex P D G (m + 1) (.ops q (.store (some g) agg sz x v :: L)) k ⟨E, H, nx⟩ = Ex P D G m (.gd (guardOf E (some g)) (.store (some g) agg sz x v) q L) k ⟨E, H, nx⟩ := Eq.trans rfl rfl
theorem ex_gdS {t : Bool} {g : Option (Nat × Bool)} {agg : Bool} {sz : Nat} {x v : Opd} : Ex P D G (m + 1) (.gd (some t) (.store g agg sz x v) q L) k ⟨E, H, nx⟩ =
    ((t = true → Ex P D G m (.sto (mval false (setG E g true) H nx (.stt agg sz x v)) q L) k ⟨setG E g true, H, nx⟩) ∧ (t = false → Ex P D G m (.ops q L) k ⟨setG E g false, H, nx⟩)) := by
  simp only [Ex, MO.loud, Bool.not_true, Bool.and_false]; rfl
theorem ex_sto {x : AV} {H' : Heap} : Ex P D G (m + 1) (.sto (some (x, H')) q L) k ⟨E, H, nx⟩ = Ex P D G m (.ops q L) k ⟨E, H', nx⟩ := Eq.trans rfl rfl
theorem ex_call {d : Nat} {f : Opd} {as : List Opd} : Ex P D G (m + 2) (.ops q (.call none d f as :: L)) k ⟨E, H, nx⟩ = CallG P D G m q L k ⟨E, H, nx⟩ d f as := by
  simp [Ex, guardOf, MO.g, CallG, setG]
theorem ex_callG {g : Nat × Bool} {d : Nat} {f : Opd} {as : List Opd} : Ex P D G (m + 1) (.ops q (.call (some g) d f as :: L)) k ⟨E, H, nx⟩ = Ex P D G m (.gd (guardOf E (some g)) (.call (some g) d f as) q L) k ⟨E, H, nx⟩ := Eq.trans rfl rfl
theorem ex_gdC {t : Bool} {g : Option (Nat × Bool)} {d : Nat} {f : Opd} {as : List Opd} : Ex P D G (m + 1) (.gd (some t) (.call g d f as) q L) k ⟨E, H, nx⟩ =
    ((t = true → CallG P D G m q L k ⟨setG E g true, H, nx⟩ d f as) ∧ (t = false → Ex P D G m (.ops q L) k ⟨(d, .tup []) :: setG E g false, H, nx⟩)) := Eq.trans rfl rfl

/-! tests whose answer is known -/
theorem ex_cndU {a b : MC} : Ex P D G (m + 1) (.cnd (some .ub) a b) k s = (Ex P D G m .ctl (.code a :: k) s ∧ Ex P D G m .ctl (.code b :: k) s) := Eq.trans rfl rfl
theorem ex_cndT {a b : MC} : Ex P D G (m + 1) (.cnd (some (.v (.w (.bool true)))) a b) k s = Ex P D G m .ctl (.code a :: k) s := by rw [ex_cnd]; simp
theorem ex_cndF {a b : MC} : Ex P D G (m + 1) (.cnd (some (.v (.w (.bool false)))) a b) k s = Ex P D G m .ctl (.code b :: k) s := by rw [ex_cnd]; simp
theorem ex_gdOT {g : Option (Nat × Bool)} {d : Nat} {mo : MOp} : Ex P D G (m + 1) (.gd (some true) (.op g d mo) q L) k ⟨E, H, nx⟩ = Ex P D G m (.put d (mval (q && !(MO.op g d mo).loud) (setG E g true) H (nx + d) mo) q L) k ⟨setG E g true, H, nx⟩ := by rw [ex_gdO]; simp
theorem ex_gdOF {g : Option (Nat × Bool)} {d : Nat} {mo : MOp} : Ex P D G (m + 1) (.gd (some false) (.op g d mo) q L) k ⟨E, H, nx⟩ = Ex P D G m (.ops q L) k ⟨(d, .tup []) :: setG E g false, H, nx⟩ := by rw [ex_gdO]; simp
theorem ex_gdST {g : Option (Nat × Bool)} {agg : Bool} {sz : Nat} {x v : Opd} : Ex P D G (m + 1) (.gd (some true) (.store g agg sz x v) q L) k ⟨E, H, nx⟩ = Ex P D G m (.sto (mval false (setG E g true) H nx (.stt agg sz x v)) q L) k ⟨setG E g true, H, nx⟩ := by rw [ex_gdS]; simp
theorem ex_gdSF {g : Option (Nat × Bool)} {agg : Bool} {sz : Nat} {x v : Opd} : Ex P D G (m + 1) (.gd (some false) (.store g agg sz x v) q L) k ⟨E, H, nx⟩ = Ex P D G m (.ops q L) k ⟨setG E g false, H, nx⟩ := by rw [ex_gdS]; simp
theorem ex_gdCT {g : Option (Nat × Bool)} {d : Nat} {f : Opd} {as : List Opd} : Ex P D G (m + 1) (.gd (some true) (.call g d f as) q L) k ⟨E, H, nx⟩ = CallG P D G m q L k ⟨setG E g true, H, nx⟩ d f as := by rw [ex_gdC]; simp
theorem ex_gdCF {g : Option (Nat × Bool)} {d : Nat} {f : Opd} {as : List Opd} : Ex P D G (m + 1) (.gd (some false) (.call g d f as) q L) k ⟨E, H, nx⟩ = Ex P D G m (.ops q L) k ⟨(d, .tup []) :: setG E g false, H, nx⟩ := by rw [ex_gdC]; simp

end eqs

/-! ### Calls -/
section calls
variable {P : Program} {D : Fd} {G : Gl} {m : Nat} {k : List MI} {E : Env} {H : Heap} {nx : Nat} {q : Bool} {L : List MO} {d : Nat} {f : Opd} {args : List Opd} {u res : AV} {fid : FuncId} {caps as ys : List AV}

/-- Rows are lent; a flat value comes back. -/
theorem CallG.lent (h1 : ev E f = some u) (h2 : fnOf u = some (fid, caps)) (h3 : evs E args = some as) (h4 : passAs true H [] (as ++ caps) = some ys) (h5 : FOk P fid ys [] res []) (h6 : flatA res = true)
    (h : Ex P D G m (.ops q L) k ⟨(d, res) :: E, H, nx⟩) : CallG P D G m q L k ⟨E, H, nx⟩ d f args :=
  ⟨_, .inl ⟨res, [], CallQ.lent h1 h2 h3 h4 h5 h6, rfl⟩, h⟩

/-- Values are handed over; a value, or new rows, come back. -/
theorem CallG.plain {Hout : Heap} (h1 : ev E f = some u) (h2 : fnOf u = some (fid, caps)) (h3 : evs E args = some as) (h4 : passAs false H [] (as ++ caps) = some ys) (h5 : FOk P fid ys [] res Hout) (h6 : ∀ p ∈ Hout, p.1 < 8 ∧ p.2.sz ≠ 0) (h7 : ∀ k, res.men k → k < 8)
    (h : Ex P D G m (.ops q L) k ⟨(d, backA [] (nx + d) res) :: E, (Hout.map fun p => (bk [] (nx + d) p.1, p.2)) ++ H, nx⟩) : CallG P D G m q L k ⟨E, H, nx⟩ d f args :=
  ⟨_, .inl ⟨_, _, CallQ.plain (s := ⟨E, H, nx⟩) h1 h2 h3 h4 h5 h6 h7, rfl⟩, h⟩

/-- Rows are handed over (ids); the others are written no more. -/
theorem CallG.rows (ids : List Nat) {Hout : Heap} (h1 : ev E f = some u) (h2 : fnOf u = some (fid, caps)) (h3 : evs E args = some as) (h4 : passAs false (frzs ids H (as ++ caps)) ids (as ++ caps) = some ys) (hn : ids.Nodup)
    (hf : ∀ id ∈ ids, ∃ e, find H id = some e ∧ e.sz ≠ 0) (h5 : FOk P fid ys (passH (frzs ids H (as ++ caps)) 0 ids) res Hout) (h6 : ∀ p ∈ Hout, p.1 < ids.length + 8 ∧ p.2.sz ≠ 0) (h7 : ∀ k, res.men k → k < ids.length + 8)
    (h : Ex P D G m (.ops false L) k ⟨(d, backA ids (nx + d) res) :: E, outH (frzs ids H (as ++ caps)) ids (nx + d) Hout, nx⟩) : CallG P D G m false L k ⟨E, H, nx⟩ d f args :=
  ⟨_, .inr ⟨rfl, CallOk.rows (s := ⟨E, H, nx⟩) h1 h2 h3 h4 hn hf h5 h6 h7 fun _ => rfl⟩, h⟩

/-- Rows are handed over and are behind the call as they were. -/
theorem CallG.same (ids : List Nat) (h1 : ev E f = some u) (h2 : fnOf u = some (fid, caps)) (h3 : evs E args = some as) (h4 : passAs false H ids (as ++ caps) = some ys) (hn : ids.Nodup) (hf : ∀ id ∈ ids, ∃ e, find H id = some e ∧ e.sz ≠ 0)
    (h5 : FOk P fid ys (passH H 0 ids) res (passH H 0 ids)) (h7 : ∀ k, res.men k → k < ids.length) (h8 : ∀ id ∈ ids, Named' E (args ++ [f]) id)
    (h : Ex P D G m (.ops q L) k ⟨(d, backA ids (nx + d) res) :: E, H, nx⟩) : CallG P D G m q L k ⟨E, H, nx⟩ d f args :=
  ⟨_, .inl ⟨_, _, CallQ.same (s := ⟨E, H, nx⟩) h1 h2 h3 h4 hn hf h5 h7 h8, rfl⟩, h⟩

end calls
end Go.AM
/- Forgetting, renaming, loops. -/
set_option linter.all false
namespace Go.AM
open Go
variable [dr : Inhabited Prop]

/-- The new number of a row: kp has pairs (new, old). -/
def newOf : List (Nat × Nat) → Nat → Option Nat
  | [], _ => none
  | (a, b) :: l, id => if id = b then some a else newOf l id

mutual
/-- A value under new numbers; a row that is not kept becomes a shared value. -/
def conv (kp : List (Nat × Nat)) (H : Heap) : AV → Option AV
  | .h id => match newOf kp id with
    | some a => some (.h a)
    | none => match find H id with
      | some e => if e.sz = 0 then none else some (.v (.sl e.sz e.l))
      | none => none
  | .ptr id i o => match newOf kp id with
    | some a => some (.ptr a i o)
    | none => none
  | .sub id i o => match newOf kp id with
    | some a => some (.sub a i o)
    | none => none
  | .fn f l => match convs kp H l with
    | some l => some (.fn f l)
    | none => none
  | .tup l => match convs kp H l with
    | some l => some (.tup l)
    | none => none
  | .u => some .u
  | .ub => some .ub
  | .v p => some (.v p)
  | .rp cs => some (.rp cs)
def convs (kp : List (Nat × Nat)) (H : Heap) : List AV → Option (List AV)
  | [] => some []
  | x :: l => match conv kp H x, convs kp H l with
    | some y, some ys => some (y :: ys)
    | _, _ => none
end

def EnvLe (kp : List (Nat × Nat)) (H : Heap) (E : Env) : Env → Prop
  | [] => True
  | (t, x) :: E' => (find E t).bind (conv kp H) = some x ∧ EnvLe kp H E E'

/-- The elements of a row of owned rows become the rows c0, .., c0 + n - 1. -/
def kpAll (kp : List (Nat × Nat)) (c0 : Nat) (ov : Option (Nat × Nat)) : Nat → Bool
  | 0 => true
  | n + 1 => kpAll kp c0 ov n && (find kp (c0 + n) == some (dAt c0 ov n))

theorem kpAll_at {kp : List (Nat × Nat)} {c0 : Nat} {ov : Option (Nat × Nat)} : ∀ {n j : Nat}, kpAll kp c0 ov n = true → j < n → find kp (c0 + j) = some (dAt c0 ov j)
  | 0, _, _, hj => absurd hj (by omega)
  | n + 1, j, h, hj => by
    simp only [kpAll, Bool.and_eq_true, beq_iff_eq] at h
    by_cases e : j = n
    · subst e; exact h.2
    · exact kpAll_at h.1 (by omega)

/-- The elements of a row of owned rows, written no more. -/
def deepRows (kp : List (Nat × Nat)) (H : Heap) (c0 : Nat) (ov : Option (Nat × Nat)) : Nat → Option (List PV)
  | 0 => some []
  | n + 1 => match deepRows kp H c0 ov n with
    | some l => match newOf kp (dAt c0 ov n) with
      | some _ => none
      | none => match find H (dAt c0 ov n) with
        | some ec => if ec.sz = 0 then none else some (l ++ [.sl ec.sz ec.l])
        | none => none
    | none => none

theorem deepRows_get {kp : List (Nat × Nat)} {H : Heap} {c0 : Nat} {ov : Option (Nat × Nat)} : ∀ {n : Nat} {rows : List PV}, deepRows kp H c0 ov n = some rows →
    rows.length = n ∧ ∀ j, j < n → ∃ ec, newOf kp (dAt c0 ov j) = none ∧ find H (dAt c0 ov j) = some ec ∧ ec.sz ≠ 0 ∧ rows[j]? = some (.sl ec.sz ec.l)
  | 0, rows, h => by simp only [deepRows, Option.some.injEq] at h; subst h; exact ⟨rfl, fun j hj => absurd hj (by omega)⟩
  | n + 1, rows, h => by
    simp only [deepRows] at h
    split at h
    · rename_i l hl
      obtain ⟨h1, h2⟩ := deepRows_get hl
      split at h
      · cases h
      · rename_i hn
        split at h
        · rename_i ec hec
          split at h
          · cases h
          · rename_i hz
            cases h
            refine ⟨by simp [h1], fun j hj => ?_⟩
            by_cases e : j = n
            · subst e
              exact ⟨ec, hn, hec, hz, by rw [List.getElem?_append_right (by omega), h1, Nat.sub_self]; rfl⟩
            · obtain ⟨ec', g1, g2, g3, g4⟩ := h2 j (by omega)
              exact ⟨ec', g1, g2, g3, by rw [List.getElem?_append_left (by omega)]; exact g4⟩
        · cases h
    · cases h

/-- A row under new numbers; z: as a row of rows. -/
def convE (kp : List (Nat × Nat)) (H : Heap) (e : Ent) (z : Bool) : Option Ent :=
  if e.sz = 0 then (if e.fro = false then (match e.l with
    | h :: rest => (match decR h with
      | some none => if z = true then some e else some ⟨e.fro, 1, rest⟩
      | some (some (i, c)) => (match newOf kp c with
        | some c' => if z = true then some ⟨e.fro, 0, encR i c' :: rest⟩ else none
        | none => (match find H c with
          | some ec => if ec.sz = 0 then none else if z = true then some ⟨e.fro, 0, .st [] :: rest.set i (.sl ec.sz ec.l)⟩ else some ⟨e.fro, 1, rest.set i (.sl ec.sz ec.l)⟩
          | none => none))
      | none => (match decD h with
        | some (c0, ov) => if z = true ∧ kpAll kp c0 ov rest.length = true then some ⟨e.fro, 0, encD c0 :: rest⟩ else (match deepRows kp H c0 ov rest.length with
          | some rows => if z = true then some ⟨e.fro, 0, .st [] :: rows⟩ else some ⟨e.fro, 1, rows⟩
          | none => none)
        | none => none))
    | [] => none) else none)
  else if z = true then (if e.sz = 1 ∧ e.fro = false then some ⟨e.fro, 0, .st [] :: e.l⟩ else none) else some e

def HeapLe (kp : List (Nat × Nat)) (H : Heap) : Heap → Prop
  | [] => True
  | (a, e) :: H' => ((find kp a).bind (find H)).bind (fun x => convE kp H x (e.sz == 0)) = some e ∧ HeapLe kp H H'

section
variable {P : Program} {D : Fd} {G : Gl} {k : List MI} {s s' : St} {kp : List (Nat × Nat)}

theorem newOf_mem : ∀ {kp : List (Nat × Nat)} {id a : Nat}, newOf kp id = some a → (a, id) ∈ kp
  | [], _, _, h => by simp [newOf] at h
  | (x, y) :: l, id, a, h => by
    simp only [newOf] at h
    split at h
    · rename_i he; cases h; subst he; simp
    · simp [newOf_mem h]

theorem newOf_none : ∀ {kp : List (Nat × Nat)} {id : Nat}, newOf kp id = none → ∀ a, (a, id) ∉ kp
  | [], _, _, _ => by simp
  | (x, y) :: l, id, h, a => by
    simp only [newOf] at h
    split at h
    · cases h
    · rename_i he
      intro hm
      rcases List.mem_cons.1 hm with hm | hm
      · cases hm; exact he rfl
      · exact newOf_none h a hm

theorem find_of_mem {α : Type} : ∀ {l : List (Nat × α)} {a : Nat} {x : α}, (l.map Prod.fst).Nodup → (a, x) ∈ l → find l a = some x
  | (b, y) :: l, a, x, hn, hm => by
    simp only [List.map_cons, List.nodup_cons] at hn
    rw [find_cons]
    rcases List.mem_cons.1 hm with hm | hm
    · cases hm; simp
    · have : a ≠ b := by intro hab; exact hn.1 (List.mem_map.2 ⟨(a, x), hm, hab⟩)
      rw [if_neg this]; exact find_of_mem hn.2 hm

theorem envLe_get {kp : List (Nat × Nat)} {H : Heap} {E : Env} : ∀ {E' : Env} {t : Nat} {x : AV}, EnvLe kp H E E' → find E' t = some x → ∃ y, find E t = some y ∧ conv kp H y = some x
  | [], t, x, _, h => by simp [find] at h
  | (u, z) :: E', t, x, hle, h => by
    simp only [EnvLe] at hle
    rw [find_cons] at h
    split at h
    · rename_i ht; cases h; subst ht; exact Option.bind_eq_some_iff.1 hle.1
    · exact envLe_get hle.2 h

theorem heapLe_get {kp : List (Nat × Nat)} {H : Heap} : ∀ {H' : Heap} {a : Nat} {e : Ent}, HeapLe kp H H' → find H' a = some e → ∃ old e0, find kp a = some old ∧ find H old = some e0 ∧ convE kp H e0 (e.sz == 0) = some e
  | [], a, e, _, h => by simp [find] at h
  | (u, z) :: H', a, e, hle, h => by
    simp only [HeapLe] at hle
    rw [find_cons] at h
    split at h
    · rename_i ht; cases h; subst ht
      obtain ⟨e0, h1, h2⟩ := Option.bind_eq_some_iff.1 hle.1
      obtain ⟨old, h3, h4⟩ := Option.bind_eq_some_iff.1 h1
      exact ⟨old, e0, h3, h4, h2⟩
    · exact heapLe_get hle.2 h

theorem convE_w {kp : List (Nat × Nat)} {H : Heap} {e0 e : Ent} {z : Bool} (h : convE kp H e0 z = some e) : e.w = e0.w := by
  unfold convE at h
  split at h
  · rename_i hz
    have hw : e0.w = 1 := by unfold Ent.w; rw [if_pos hz]
    rw [hw]
    split at h
    rotate_left
    · cases h
    split at h
    · split at h
      · split at h
        · cases h; exact hw
        · cases h; rfl
      · split at h
        · split at h
          · cases h; rfl
          · cases h
        · split at h
          · split at h
            · cases h
            · split at h
              · cases h; rfl
              · cases h; rfl
          · cases h
      · split at h
        · split at h
          · cases h; rfl
          · split at h
            · split at h
              · cases h; rfl
              · cases h; rfl
            · cases h
        · cases h
    · cases h
  · rename_i hz
    split at h
    · split at h
      · rename_i h1; cases h; unfold Ent.w; rw [if_pos rfl, if_neg hz, h1.1]
      · cases h
    · cases h; rfl

theorem snd_one : ∀ {l : List (Nat × Nat)}, (l.map Prod.snd).Nodup → ∀ {i i' old : Nat}, (i, old) ∈ l → (i', old) ∈ l → i = i'
  | [], _, _, _, _, h, _ => by simp at h
  | (x, y) :: l, hnd, i, i', old, h, h' => by
    simp only [List.map_cons, List.nodup_cons] at hnd
    rcases List.mem_cons.1 h with g | g <;> rcases List.mem_cons.1 h' with g' | g'
    · cases g; cases g'; rfl
    · cases g; exact (hnd.1 (List.mem_map.2 ⟨(i', y), g', rfl⟩)).elim
    · cases g'; exact (hnd.1 (List.mem_map.2 ⟨(i, y), g, rfl⟩)).elim
    · exact snd_one hnd.2 g g'

def ren {α : Type} (f : Nat → α) (d : α) (kp : List (Nat × Nat)) (a : Nat) : α := match find kp a with | some old => f old | none => d

section conv
variable {C : Cx} {n : Nat} {F : Nat → Prop} {a : Act} {W : World} {hdr : Nat → Value} {ow : Nat → Option Nat} {okC : Nat → Prop} {H' : Heap}
mutual
theorem conv_ok (r : RelAt C n F s a W hdr ow) (hn : (kp.map Prod.fst).Nodup) (hle : HeapLe kp s.heap H') (hok : ∀ j, OK C W s.heap ow j → okC j) (hb : ∀ id e j, (∀ b, (b, id) ∉ kp) → find s.heap id = some e → ow id = some j → okC j) :
    ∀ (x y : AV) (v : Value), conv kp s.heap x = some y → RepA W (OK C W s.heap ow) hdr s.heap x v → RepA W okC (ren hdr default kp) H' y v
  | .h id, y, v, h, hx => by
    simp only [conv] at h
    simp only [RepA] at hx
    split at h
    · rename_i b hb'
      cases h
      have hf := find_of_mem hn (newOf_mem hb')
      simp only [RepA]
      intro e he
      obtain ⟨old, e0, h1, h2, _⟩ := heapLe_get hle he
      rw [hf] at h1; cases h1
      rw [hx e0 h2]; simp [ren, hf]
    · rename_i hnone
      split at h
      · rename_i e he
        split at h
        · cases h
        rename_i hz
        cases h
        simp only [RepA]
        rw [hx e he]
        exact RepV.sl (((r.mem.ent id e he).plain hz).shared hok fun j hj => hb id e j (newOf_none hnone) he hj)
      · cases h
  | .ptr id i off, y, v, h, hx => by
    simp only [conv] at h
    simp only [RepA] at hx
    split at h
    · rename_i b hb'
      cases h
      have hf := find_of_mem hn (newOf_mem hb')
      simp only [RepA]
      intro e he
      obtain ⟨old, e0, h1, h2, h3⟩ := heapLe_get hle he
      rw [hf] at h1; cases h1
      rw [convE_w h3]
      simpa [ren, hf] using hx e0 h2
    · cases h
  | .sub id i off, y, v, h, hx => by
    simp only [conv] at h
    simp only [RepA] at hx
    split at h
    · rename_i b hb'
      cases h
      have hf := find_of_mem hn (newOf_mem hb')
      simp only [RepA]
      intro e he
      obtain ⟨old, e0, h1, h2, h3⟩ := heapLe_get hle he
      rw [hf] at h1; cases h1
      rw [convE_w h3]
      simpa [ren, hf] using hx e0 h2
    · cases h
  | .fn f l, y, v, h, hx => by
    simp only [conv] at h
    simp only [RepA] at hx
    split at h
    · rename_i l' hl
      cases h
      simp only [RepA]
      obtain ⟨vs, h1, h2⟩ := hx
      exact ⟨vs, h1, convs_ok r hn hle hok hb l l' vs hl h2⟩
    · cases h
  | .tup l, y, v, h, hx => by
    simp only [conv] at h
    simp only [RepA] at hx
    split at h
    · rename_i l' hl
      cases h
      simp only [RepA]
      obtain ⟨vs, h1, h2⟩ := hx
      exact ⟨vs, h1, convs_ok r hn hle hok hb l l' vs hl h2⟩
    · cases h
  | .u, y, v, h, hx => by simp only [conv] at h; cases h; simp [RepA]
  | .ub, y, v, h, hx => by simp only [conv] at h; cases h; simp only [RepA] at *; exact hx
  | .v p, y, v, h, hx => by
    simp only [conv] at h; cases h
    simp only [RepA] at *
    exact hx.mono fun j hj => ⟨hok j hj, rfl⟩
  | .rp cs, y, v, h, hx => by
    simp only [conv] at h; cases h
    simp only [RepA] at *
    obtain ⟨b, o, c, h1, h2, h3, h4, h5⟩ := hx
    exact ⟨b, o, c, h1, hok b h2, h3, h4.mono fun j hj => ⟨hok j hj, rfl⟩, h5⟩
theorem convs_ok (r : RelAt C n F s a W hdr ow) (hn : (kp.map Prod.fst).Nodup) (hle : HeapLe kp s.heap H') (hok : ∀ j, OK C W s.heap ow j → okC j) (hb : ∀ id e j, (∀ b, (b, id) ∉ kp) → find s.heap id = some e → ow id = some j → okC j) :
    ∀ (l l' : List AV) (vs : List Value), convs kp s.heap l = some l' → RepAs W (OK C W s.heap ow) hdr s.heap l vs → RepAs W okC (ren hdr default kp) H' l' vs
  | [], l', [], h, _ => by simp [convs] at h; subst h; simp [RepAs]
  | [], l', _ :: _, h, hx => by simp [RepAs] at hx
  | _ :: _, l', [], h, hx => by simp [RepAs] at hx
  | x :: l, l', v :: vs, h, hx => by
    simp only [convs] at h
    simp only [RepAs] at hx
    split at h
    · rename_i y ys h1 h2
      cases h
      simp only [RepAs]
      exact ⟨conv_ok r hn hle hok hb x y v h1 hx.1, convs_ok r hn hle hok hb l ys vs h2 hx.2⟩
    · cases h
end
mutual
theorem conv_men {H : Heap} : ∀ (x y : AV) (i : Nat), conv kp H x = some y → y.men i → ∃ b, (i, b) ∈ kp
  | .h id, y, i, h, hi => by
    simp only [conv] at h
    split at h
    · rename_i b hb; cases h; simp only [AV.men] at hi; subst hi; exact ⟨id, newOf_mem hb⟩
    · split at h
      · split at h
        · cases h
        · cases h; simp [AV.men] at hi
      · cases h
  | .ptr id j o, y, i, h, hi => by
    simp only [conv] at h
    split at h
    · rename_i b hb; cases h; simp only [AV.men] at hi; subst hi; exact ⟨id, newOf_mem hb⟩
    · cases h
  | .sub id j o, y, i, h, hi => by
    simp only [conv] at h
    split at h
    · rename_i b hb; cases h; simp only [AV.men] at hi; subst hi; exact ⟨id, newOf_mem hb⟩
    · cases h
  | .fn f l, y, i, h, hi => by
    simp only [conv] at h
    split at h
    · rename_i l' hl; cases h; exact convs_men l l' i hl (by simpa [AV.men] using hi)
    · cases h
  | .tup l, y, i, h, hi => by
    simp only [conv] at h
    split at h
    · rename_i l' hl; cases h; exact convs_men l l' i hl (by simpa [AV.men] using hi)
    · cases h
  | .u, y, i, h, hi => by simp only [conv] at h; cases h; simp [AV.men] at hi
  | .ub, y, i, h, hi => by simp only [conv] at h; cases h; simp [AV.men] at hi
  | .v _, y, i, h, hi => by simp only [conv] at h; cases h; simp [AV.men] at hi
  | .rp _, y, i, h, hi => by simp only [conv] at h; cases h; simp [AV.men] at hi
theorem convs_men {H : Heap} : ∀ (l l' : List AV) (i : Nat), convs kp H l = some l' → AV.mens l' i → ∃ b, (i, b) ∈ kp
  | [], l', i, h, hi => by simp [convs] at h; subst h; simp [AV.mens] at hi
  | x :: l, l', i, h, hi => by
    simp only [convs] at h
    split at h
    · rename_i y ys h1 h2
      cases h
      simp only [AV.mens] at hi
      rcases hi with hi | hi
      · exact conv_men x y i h1 hi
      · exact convs_men l ys i h2 hi
    · cases h
end
end conv

section ent
variable {C : Cx} {n : Nat} {F : Nat → Prop} {a : Act} {W : World} {hdr : Nat → Value} {ow : Nat → Option Nat} {okC : Nat → Prop}

theorem nestL_rep {ok : Nat → Prop} {rest : List PV} {vs : List Value} (r : NestL W ok hdr none rest vs) : RepL W ok 1 rest vs := by
  refine RepL.ofGet (by rw [r.1, Nat.mul_one]) fun i p hp => ?_
  have hi : i < vs.length := by rw [r.1]; exact (List.getElem?_eq_some_iff.1 hp).1
  have := (r.2 i p vs[i] hp (List.getElem?_eq_getElem hi)).2 (fun i c h => by cases h)
  rw [Nat.mul_one, List.drop_eq_getElem_cons hi, List.take_succ_cons, List.take_zero]
  exact this

theorem rep_nestL {ok : Nat → Prop} {hdr : Nat → Value} {rest : List PV} {vs : List Value} (r : RepL W ok 1 rest vs) : NestL W ok hdr none rest vs := by
  refine ⟨by rw [r.length, Nat.mul_one], fun j p v hp hv => ⟨fun i c h => (by cases h), fun _ => ?_⟩⟩
  obtain ⟨v', h1, h2⟩ := r.get1 hp
  rw [hv] at h1; cases h1; exact h2

theorem nestL_set {ok ok' : Nat → Prop} {hdr hdr' : Nat → Value} {rest : List PV} {vs : List Value} {i c : Nat} {p : PV} (r : NestL W ok hdr (some (i, c)) rest vs) (h : ∀ b, ok b → ok' b) (hp : RepC W ok' p [hdr c]) : NestL W ok' hdr' none (rest.set i p) vs := by
  refine ⟨by rw [r.1, List.length_set], fun j q v hq hv => ⟨fun i c h => (by cases h), fun _ => ?_⟩⟩
  rw [List.getElem?_set] at hq
  by_cases hji : i = j
  · subst hji
    rw [if_pos rfl] at hq
    split at hq
    · rename_i hlt
      cases hq
      have := (r.2 i rest[i] v (List.getElem?_eq_getElem hlt) hv).1 i c rfl rfl
      rw [this.1]; exact hp
    · cases hq
  · rw [if_neg hji] at hq
    exact ((r.2 j q v hq hv).2 (fun i' c' h => by cases h; exact fun h' => hji h'.symm)).mono fun b hb => ⟨h b hb, rfl⟩

theorem conv_ent (r : RelAt C n F s a W hdr ow) (hn : (kp.map Prod.fst).Nodup) (hok : ∀ j, OK C W s.heap ow j → okC j) (hb : ∀ id e j, (∀ b, (b, id) ∉ kp) → find s.heap id = some e → ow id = some j → okC j) {old : Nat} {e0 e : Ent} {z : Bool}
    (he : find s.heap old = some e0) (h : convE kp s.heap e0 z = some e) : RepE W okC (ren hdr default kp) e (hdr old) (ow old) ∧ (∀ c, e.refs c → ∃ b, (c, b) ∈ kp) := by
  have hmo : ∀ b, OK C W s.heap ow b → okC b ∧ W.heap[b]? = W.heap[b]? := fun b hb => ⟨hok b hb, rfl⟩
  have hE := r.mem.ent old e0 he
  unfold convE at h
  split at h
  · rename_i hz
    split at h
    rotate_left
    · cases h
    rename_i hfr
    split at h
    · rename_i g rest hl
      split at h
      · rename_i hq
        obtain ⟨_, _, g', rest', rf, hl', hrf, hN⟩ := hE.nest hz hfr hl hq
        rw [hl] at hl'
        injection hl' with q1 q2
        subst q1 q2
        rw [hrf] at hq; cases hq
        split at h
        · cases h
          refine ⟨.inr (.inl ⟨hfr, hz, g, rest, none, hl, hrf, ?_⟩), fun c hc => by obtain ⟨i, hi⟩ := (Ent.refs_R hz hl hrf).1 hc; cases hi⟩
          rcases hN with hN | ⟨b, off, cap, c, h1, h2, h3, h4, h5, h6⟩
          · exact .inl hN
          · exact .inr ⟨b, off, cap, c, h1, h2, h3, h4, h5, h6.mono hmo (fun i c h => by cases h)⟩
        · cases h
          refine ⟨.inl ⟨fun h => by simp at h, ?_⟩, fun c hc => (Ent.refs_none (by simp) hc).elim⟩
          rcases hN with ⟨h1, h2, h3⟩ | ⟨b, off, cap, c, h1, h2, h3, h4, h5, h6⟩
          · exact .inr (.inl ⟨h1, h2, h3⟩)
          · exact .inr (.inr ⟨hfr, b, off, cap, c, h1, h2, h3, by simpa using h4, h5, by simpa using nestL_rep (hdr := hdr) (h6.mono hmo (fun i c h => by cases h))⟩)
      · rename_i i c hq
        obtain ⟨_, _, g', rest', rf, hl', hrf, hN⟩ := hE.nest hz hfr hl hq
        rw [hl] at hl'
        injection hl' with q1 q2
        subst q1 q2
        rw [hrf] at hq; cases hq
        split at h
        · rename_i c' hc'
          split at h
          · cases h
            have hm := newOf_mem hc'
            have hf := find_of_mem hn hm
            refine ⟨.inr (.inl ⟨hfr, rfl, encR i c', rest, some (i, c'), rfl, by simp [decR], ?_⟩), fun c1 hc1 => by obtain ⟨i1, hi⟩ := (Ent.refs_R rfl rfl (rf := some (i, c')) (by simp [decR])).1 hc1; simp at hi; rw [← hi.2]; exact ⟨c, hm⟩⟩
            rcases hN with hN | ⟨b, off, cap, cc, h1, h2, h3, h4, h5, h6⟩
            · exact .inl hN
            · refine .inr ⟨b, off, cap, cc, h1, h2, h3, h4, h5, h6.1, fun j p v hp hv => ?_⟩
              obtain ⟨k1, k2⟩ := h6.2 j p v hp hv
              refine ⟨fun i1 c1 h h' => ?_, fun h' => (k2 fun i1 c1 h => by cases h; exact h' i c' rfl).mono hmo⟩
              cases h
              have := k1 i c rfl h'
              simp only [ren, hf]; exact this
          · cases h
        · rename_i hnone
          split at h
          · rename_i ec hec
            split at h
            · cases h
            · rename_i hzc
              have hsh : RepC W okC (.sl ec.sz ec.l) [hdr c] := ((r.mem.ent c ec hec).plain hzc).shared hok fun j hj => hb c ec j (newOf_none hnone) hec hj
              split at h
              · cases h
                refine ⟨.inr (.inl ⟨hfr, rfl, .st [], rest.set i (.sl ec.sz ec.l), none, rfl, by simp [decR], ?_⟩), fun c1 hc1 => by obtain ⟨i1, hi⟩ := (Ent.refs_R rfl rfl (rf := none) (by simp [decR])).1 hc1; cases hi⟩
                rcases hN with ⟨h1, h2, h3⟩ | ⟨b, off, cap, cc, h1, h2, h3, h4, h5, h6⟩
                · exact .inl ⟨by rw [h1]; rfl, h2, h3⟩
                · exact .inr ⟨b, off, cap, cc, h1, by rw [List.length_set]; exact h2, h3, h4, by rw [List.length_set]; exact h5, by rw [List.length_set]; exact nestL_set h6 hok hsh⟩
              · cases h
                refine ⟨.inl ⟨fun h => by simp at h, ?_⟩, fun c hc => (Ent.refs_none (by simp) hc).elim⟩
                rcases hN with ⟨h1, h2, h3⟩ | ⟨b, off, cap, cc, h1, h2, h3, h4, h5, h6⟩
                · exact .inr (.inl ⟨by rw [h1]; rfl, h2, h3⟩)
                · exact .inr (.inr ⟨hfr, b, off, cap, cc, h1, by simp only [List.length_set]; exact h2, h3, by simpa using h4, by simp only [List.length_set]; exact h5, by
                    simp only [List.length_set, Nat.mul_one]
                    exact nestL_rep (nestL_set (hdr' := hdr) h6 hok hsh)⟩)
          · cases h
      · split at h
        · rename_i c0 ov hd
          have hD := hE.deep hz hfr hl hd
          split at h
          · rename_i hc
            cases h
            have hk : ∀ j, j < rest.length → find kp (c0 + j) = some (dAt c0 ov j) := fun j hj => kpAll_at hc.2 hj
            have hdec : decD (encD c0) = some (c0, none) := by simp [decD]
            refine ⟨.inr (.inr ⟨hfr, rfl, encD c0, rest, c0, none, rfl, hdec, ?_⟩), fun c hc => ?_⟩
            · refine hD.imp id fun ⟨b, off, cap, cc, h1, h2, h3, h4, h5, h6⟩ => ⟨b, off, cap, cc, h1, h2, h3, h4, h5, fun j v hj hv => ?_⟩
              have := h6 j v hj hv
              simp only [dAt] at this ⊢
              simp only [ren, hk j hj]
              exact this
            · obtain ⟨j, hj, e1⟩ := (Ent.refs_D rfl rfl hdec).1 hc
              exact ⟨_, by rw [e1]; exact find_mem (hk j hj)⟩
          · split at h
            · rename_i rows hrows
              obtain ⟨hlen, hget⟩ := deepRows_get hrows
              have hrep : ∀ (b off cap : Nat) (cc : List Value), off + cap ≤ cc.length → rest.length ≤ cap → (∀ j v, j < rest.length → cc[off + j]? = some v → v = hdr (dAt c0 ov j) ∧ ∃ a m n, v = .slice a m n) →
                  RepL W okC 1 rows ((cc.drop off).take rest.length) := by
                intro b off cap cc h4 h5 h6
                refine RepL.ofGet (by rw [List.length_take, List.length_drop]; omega) fun i p hp => ?_
                have hi : i < rest.length := by rw [← hlen]; exact (List.getElem?_eq_some_iff.1 hp).1
                obtain ⟨ec, g1, g2, g3, g4⟩ := hget i hi
                rw [hp] at g4; cases g4
                have hcell : cc[off + i]? = some (cc[off + i]'(by omega)) := List.getElem?_eq_getElem (by omega)
                have hv := (h6 i _ hi hcell).1
                have hsh : RepC W okC (.sl ec.sz ec.l) [hdr (dAt c0 ov i)] := ((r.mem.ent _ ec g2).plain g3).shared hok fun j hj => hb _ ec j (newOf_none g1) g2 hj
                have e1 : (((cc.drop off).take rest.length).drop (i * 1)).take 1 = [cc[off + i]'(by omega)] := by
                  rw [Nat.mul_one, List.drop_eq_getElem_cons (by rw [List.length_take, List.length_drop]; omega), List.take_succ_cons, List.take_zero]
                  simp
                rw [e1, hv]; exact hsh
              split at h
              · cases h
                refine ⟨.inr (.inl ⟨hfr, rfl, .st [], rows, none, rfl, by simp [decR], ?_⟩), fun c hc => by obtain ⟨i1, hi⟩ := (Ent.refs_R rfl rfl (rf := none) (by simp [decR])).1 hc; cases hi⟩
                rcases hD with ⟨h1, h2, h3⟩ | ⟨b, off, cap, cc, h1, h2, h3, h4, h5, h6⟩
                · exact .inl ⟨List.length_eq_zero_iff.1 (by rw [hlen, h1]; rfl), h2, h3⟩
                · exact .inr ⟨b, off, cap, cc, h1, by rw [hlen]; exact h2, h3, h4, by rw [hlen]; exact h5, by rw [hlen]; exact rep_nestL (hrep b off cap cc h4 h5 h6)⟩
              · cases h
                refine ⟨.inl ⟨fun h => by simp at h, ?_⟩, fun c hc => (Ent.refs_none (by simp) hc).elim⟩
                rcases hD with ⟨h1, h2, h3⟩ | ⟨b, off, cap, cc, h1, h2, h3, h4, h5, h6⟩
                · exact .inr (.inl ⟨List.length_eq_zero_iff.1 (by rw [hlen, h1]; rfl), h2, h3⟩)
                · exact .inr (.inr ⟨hfr, b, off, cap, cc, h1, by rw [hlen]; exact h2, h3, by simpa using h4, by rw [hlen]; exact h5, by
                    simp only [hlen, Nat.mul_one]
                    exact hrep b off cap cc h4 h5 h6⟩)
            · cases h
        · cases h
    · cases h
  · rename_i hz
    split at h
    · split at h
      · rename_i hc
        cases h
        refine ⟨.inr (.inl ⟨hc.2, rfl, .st [], e0.l, none, rfl, by simp [decR], ?_⟩), fun c hc => by obtain ⟨i1, hi⟩ := (Ent.refs_R rfl rfl (rf := none) (by simp [decR])).1 hc; cases hi⟩
        rcases hE.plain hz with ⟨h3, _⟩ | ⟨h1, h2, h3⟩ | ⟨_, b, off, cap, c, h1, h2, h3, h4, h5, h6⟩
        · rw [hc.2] at h3; cases h3
        · exact .inl ⟨h1, h2, h3⟩
        · rw [hc.1, Nat.mul_one] at h4
          rw [hc.1, Nat.mul_one] at h6
          exact .inr ⟨b, off, cap, c, h1, h2, h3, h4, h5, (rep_nestL (hdr := ren hdr default kp) h6).mono hmo (fun i c h => by cases h)⟩
      · cases h
    · cases h
      exact ⟨hE.mono hmo (fun _ _ => rfl) (fun c hc => (Ent.refs_none hz hc).elim), fun c hc => (Ent.refs_none hz hc).elim⟩
end ent

/-- What holds from a state that says less holds from one that says more. -/
theorem Run.weaken (kp : List (Nat × Nat)) (hn : (kp.map Prod.fst).Nodup) (hn2 : (kp.map Prod.snd).Nodup) (hE : EnvLe kp s.heap s.env s'.env) (hH : HeapLe kp s.heap s'.heap) (hnx : ∀ p ∈ kp, p.1 < s'.nx) (hnin : G.nin ≤ s'.nx)
    (hkeep : ∀ j, j < G.nin → (find s'.heap j).isSome = true → find kp j = some j) (h : Run P D G k s') : Run P D G k s := by
  intro C fn a W hdr ow items hC hfn r hm b cs hb hbk
  have hget : ∀ i e, find s'.heap i = some e → ∃ old e0, find kp i = some old ∧ find s.heap old = some e0 ∧ convE kp s.heap e0 (e.sz == 0) = some e := fun i e he => heapLe_get hH he
  have hown : ∀ j, Own s'.heap (ren ow none kp) j → ∃ i id e, (i, id) ∈ kp ∧ find s.heap id = some e ∧ ow id = some j := by
    rintro j ⟨i, e, hi, ho⟩
    obtain ⟨old, e0, h1, h2, _⟩ := hget i e hi
    simp only [ren, h1] at ho
    exact ⟨i, old, e0, find_mem h1, h2, ho⟩
  have hok : ∀ j, OK C W s.heap ow j → OK C W s'.heap (ren ow none kp) j := by
    rintro j ⟨h1, h2⟩
    refine ⟨h1, fun h => ?_⟩
    obtain ⟨i, id, e, _, q1, q2⟩ := hown j h
    exact h2 ⟨id, e, q1, q2⟩
  have hokb : ∀ id e j, (∀ b, (b, id) ∉ kp) → find s.heap id = some e → ow id = some j → OK C W s'.heap (ren ow none kp) j := by
    intro id e j hni he hj
    have hlt := r.mem.lt id e j he hj
    refine ⟨⟨.inr hlt.2, hlt.1⟩, fun h => ?_⟩
    obtain ⟨i, id', e', q0, q1, q2⟩ := hown j h
    have := r.mem.inj id id' e e' j he q1 hj q2
    subst this; exact hni i q0
  have hold : ∀ {i i' old : Nat}, (i, old) ∈ kp → (i', old) ∈ kp → i = i' := fun h1 h2 => snd_one hn2 h1 h2
  have r' : RelAt C D.n (· < s'.nx) s' a W (ren hdr default kp) (ren ow none kp) := by
    refine ⟨⟨?_, ?_, ?_, r.mem.size, r.mem.frame, r.mem.os, r.mem.tape, r.mem.output⟩, r.defers, r.tsz, ?_, ?_, ?_, ?_, ?_, ?_⟩
    · intro i e he
      obtain ⟨old, e0, h1, h2, h3⟩ := hget i e he
      have := (conv_ent r hn hok hokb h2 h3).1
      have e1 : ren hdr default kp i = hdr old := by simp [ren, h1]
      have e2 : ren ow none kp i = ow old := by simp [ren, h1]
      rw [e1, e2]; exact this
    · intro i i' e e' j hi hi' hj hj'
      obtain ⟨old, e0, h1, h2, _⟩ := hget i e hi
      obtain ⟨old', e0', h1', h2', _⟩ := hget i' e' hi'
      simp only [ren, h1] at hj
      simp only [ren, h1'] at hj'
      have := r.mem.inj old old' e0 e0' j h2 h2' hj hj'
      subst this
      exact hold (find_mem h1) (find_mem h1')
    · intro i e j hi hj
      obtain ⟨old, e0, h1, h2, _⟩ := hget i e hi
      simp only [ren, h1] at hj
      exact r.mem.lt old e0 j h2 hj
    · intro t x hx
      obtain ⟨y, h1, h2⟩ := envLe_get hE hx
      exact conv_ok r hn hH hok hokb y x _ h2 (r.env t y h1)
    · intro t x hx i hi
      obtain ⟨y, h1, h2⟩ := envLe_get hE hx
      obtain ⟨b, hb⟩ := conv_men y x i h2 hi
      exact hnx _ hb
    · intro i e he
      obtain ⟨old, e0, h1, h2, _⟩ := hget i e he
      exact hnx _ (find_mem h1)
    · intro j hj
      rw [hC] at hj
      show j < s'.nx
      omega
    · intro j hj e he
      rw [hC] at hj
      have h1 := hkeep j hj (by rw [he]; rfl)
      obtain ⟨old, e0, h2, h3, _⟩ := hget j e he
      rw [h1] at h2; cases h2
      simp only [ren, h1]
      exact r.gh j (by rw [hC]; exact hj) e0 h3
    · intro i e c he hc
      obtain ⟨old, e0, h1, h2, h3⟩ := hget i e he
      obtain ⟨b, hb⟩ := (conv_ent r hn hok hokb h2 h3).2 c hc
      exact hnx _ hb
  exact h C fn a W _ _ items hC hfn r' hm b cs hb hbk

/-- A loop: from the states st i (I i), by what is left (ms i). -/
theorem Run.loop_ind {x : MC} {ι : Type} (I : ι → Prop) (st : ι → St) (ms : ι → Nat) (step : ∀ i, I i → (∀ j, I j → ms j < ms i → Run P D G (.inLoop x :: k) (st j)) → Run P D G (.code x :: .inLoop x :: k) (st i)) :
    ∀ i, I i → Run P D G (.code (.loop x) :: k) (st i) := by
  have key : ∀ (m : Nat) (i : ι), ms i < m → I i → Run P D G (.inLoop x :: k) (st i) := by
    intro m
    induction m with
    | zero => intro i h; omega
    | succ m ih => intro i h hI; exact (step i hI fun j hj hlt => ih j (by omega) hj).inLoop
  intro i hI
  exact (step i hI fun j hj _ => key (ms j + 1) j (Nat.lt_succ_self _) hj).loop

end
end Go.AM
/- The set of equations that the reckoning goes by. -/
set_option linter.all false
namespace Go.AM
open Go
variable [dr : Inhabited Prop]

/-- The function's text, read. -/
def FnCode (P : Program) (f : FuncId) (ows : List Nat) (n : Nat) (rs : List Nat) (m : MC) : Prop :=
  ∃ fn, P.funcs[f]? = some fn ∧ (∀ (as : Array Value) (W : World), (callFunc f as).run P W = .ok (.enter f as) W) ∧ fn.ntmps = n ∧ mapO (resOf P) fn.results.toList = some rs ∧ fn.body.bind (cC P ows n) = some m

theorem FOk.of {P : Program} {f : FuncId} {ows rs : List Nat} {n : Nat} {m : MC} {args : List AV} {H : Heap} {res : AV} {H' : Heap} (hc : FnCode P f ows n rs m) (nin : Nat) (hargs : args.length ≤ n) (hnin : nin ≤ 1024) (hH : ∀ p ∈ H, p.1 < nin ∧ p.2.sz ≠ 0)
    (hmen : ∀ k, AV.mens args k → k < 1024) (hsz : ∀ k e e', find H k = some e → find H' k = some e' → e'.sz = e.sz) (hl : rs.length ≤ 4)
    (h : Ex P ⟨f, ows, n, rs⟩ ⟨nin, res, H'⟩ 4000 .ctl [.code m] ⟨envOf 0 args, H, 1024⟩) : FOk P f args H res H' := by
  obtain ⟨fn, h1, h2, rfl, h4, h5⟩ := hc
  obtain ⟨c, h6, h7⟩ := Option.bind_eq_some_iff.1 h5
  exact FOk.intro h1 h2 h6 ows rs h4 h7 hargs nin hnin hH hmen hsz (Ex.run hl h)

/-- Values come in, a value goes out. -/
theorem FOk.val {P : Program} {f : FuncId} {ows rs : List Nat} {n : Nat} {m : MC} {args : List AV} {res : AV} {H' : Heap} (hc : FnCode P f ows n rs m) (hargs : args.length ≤ n) (hmen : ∀ k, AV.mens args k → k < 1024) (hl : rs.length ≤ 4)
    (h : Ex P ⟨f, ows, n, rs⟩ ⟨0, res, H'⟩ 4000 .ctl [.code m] ⟨envOf 0 args, [], 1024⟩) : FOk P f args [] res H' :=
  FOk.of hc 0 hargs (by decide) (by simp) hmen (by simp [find]) hl h

theorem Ends.val {D : Fd} {G : Gl} {s : St} {x : AV} (h1 : retA s.heap s.env D.rs = some x) (h2 : passR s.heap [] x = some G.res) (h3 : G.H' = []) : Ends D G s :=
  ⟨[], x, List.nodup_nil, h1, h2, by simp [passH, h3], by simp [h3], by intro k _ h; rw [h3] at h; simp [find] at h⟩

/-- The finish, by reckoning: nothing but a value goes out. -/
def outV (E : Env) (H : Heap) (rs : List Nat) : Option AV := match retA H E rs with
  | some x => passR H [] x
  | none => none

theorem Ends.v {D : Fd} {G : Gl} {s : St} (h3 : G.H' = []) (h : outV s.env s.heap D.rs = some G.res) : Ends D G s := by
  unfold outV at h
  split at h
  · rename_i x hx
    exact Ends.val hx h h3
  · cases h

/-- Says less, of the same. -/
def Le (nin : Nat) (kp : List (Nat × Nat)) (s s' : St) : Prop :=
  (kp.map Prod.fst).Nodup ∧ (kp.map Prod.snd).Nodup ∧ EnvLe kp s.heap s.env s'.env ∧ HeapLe kp s.heap s'.heap ∧ (∀ p ∈ kp, p.1 < s'.nx) ∧ nin ≤ s'.nx ∧ ∀ j, j < nin → (find s'.heap j).isSome = true → find kp j = some j

section
variable {P : Program} {D : Fd} {G : Gl} {k : List MI} {s s' : St}

theorem Run.le {kp : List (Nat × Nat)} (h : Le G.nin kp s s') (hr : Run P D G k s') : Run P D G k s :=
  Run.weaken kp h.1 h.2.1 h.2.2.1 h.2.2.2.1 h.2.2.2.2.1 h.2.2.2.2.2.1 h.2.2.2.2.2.2 hr

/-- A loop whose rounds begin at states st i. -/
theorem Run.loopI {x : MC} {ι : Type} (I : ι → Prop) (st : ι → St) (ms : ι → Nat) (i0 : ι) (kp : List (Nat × Nat)) (hl : D.rs.length ≤ 4) (hle : Le G.nin kp s (st i0)) (h0 : I i0)
    (step : ∀ i, I i → (∀ (j : ι) (kp : List (Nat × Nat)) (s' : St), I j → ms j < ms i → Le G.nin kp s' (st j) → Run P D G (.inLoop x :: k) s') → Ex P D G 4000 .ctl (.code x :: .inLoop x :: k) (st i)) : Run P D G (.code (.loop x) :: k) s :=
  Run.le hle (Run.loop_ind I st ms (fun i hi ih => Ex.run hl (step i hi fun j _ _ hj hm hle' => Run.le hle' (ih j hj hm))) i0 h0)

/-- Ahead to a place from which all is known by states st j. -/
theorem Run.cut {a b : MC} {ι : Type} (J : ι → Prop) (st : ι → St) (hl : D.rs.length ≤ 4) (hk : ∀ j, J j → Ex P D G 4000 .ctl (.code b :: k) (st j))
    (h : (∀ (j : ι) (kp : List (Nat × Nat)) (s' : St), J j → Le G.nin kp s' (st j) → Run P D G (.code b :: k) s') → Ex P D G 4000 .ctl (.code a :: .stop :: .code b :: k) s) : Run P D G (.code (.seq a b) :: k) s :=
  Run.seq (by
    have h1 : Run P D G (.code a :: .stop :: .code b :: k) s := Ex.run hl (h fun j _ _ hj hle => Run.le hle (Ex.run hl (hk j hj)))
    intro C fn a W hdr ow items hC hfn r hm b cs hb hbk
    cases hm with
    | cons hx hm => exact h1 C fn a W hdr ow _ hC hfn r (.cons hx (.stop hm)) b cs hb hbk)

end

theorem wrap_i64 {x : Int} (h0 : -9223372036854775808 ≤ x) (h : x ≤ 9223372036854775807) : IntKind.i64.wrap x = x := IntWalk.i64_in x ⟨h0, h⟩

attribute [simp] outV Le
attribute [simp high] ex_cndT ex_cndF ex_cndU ex_gdOT ex_gdOF ex_gdST ex_gdSF ex_gdCT ex_gdCF
@[simp] theorem tov2_v (q : Bool) (H : Heap) (p : PV) : tov2 q H (.v p) = tov q H (.v p) := rfl
@[simp] theorem tov2_h (q : Bool) (H : Heap) (id : Nat) : tov2 q H (.h id) = tov q H (.h id) := rfl
@[simp] theorem tov2_f0 (q : Bool) (H : Heap) (f : Nat) : tov2 q H (.fn f []) = tov q H (.fn f []) := rfl
@[simp] theorem tov2_f (q : Bool) (H : Heap) (f : Nat) (c : AV) (cs : List AV) : tov2 q H (.fn f (c :: cs)) = if q = true then none else (capVs H (c :: cs)).map fun (ps, H') => (.cl f ps, H') := rfl
attribute [simp] capV capVs capAs
attribute [simp] ex_bad ex_ret ex_nil ex_skip ex_seq ex_cond ex_cnd ex_block ex_inBlock ex_exit ex_loop ex_inLoop ex_stop ex_reg ex_end ex_op ex_opG ex_gdO ex_put ex_st ex_stG ex_gdS ex_sto ex_call ex_callG ex_gdC
attribute [simp] mval.eq_1 mval.eq_2 mval.eq_3 mval.eq_4 mval.eq_5 mval.eq_6 mval.eq_7 mval.eq_8 mval.eq_9 mval.eq_10 mval.eq_11 mval.eq_12 mval.eq_13 mval.eq_14 mval.eq_15 mval.eq_16 mval.eq_17 mval.eq_18 mval.eq_19 mval.eq_20 mval.eq_21 mval.eq_22 mval.eq_23 mval.eq_24 mval.eq_25 mval.eq_26 mval.eq_27 mval.eq_28 mval.eq_29 mval.eq_30 mval.eq_31 mval.eq_32 mval.eq_33 mval.eq_34 mval.eq_35 mval.eq_36 mval.eq_37 mval.eq_38 mval.eq_39 mval.eq_40 mval.eq_41 mval.eq_42 mval.eq_43
attribute [simp] intBin.eq_1 intBin.eq_2 intBin.eq_3 intBin.eq_4 intBin.eq_5 intBin.eq_6 intBin.eq_7 intBin.eq_8 intBin.eq_9 intBin.eq_10 intBin.eq_11 intBin.eq_12 intBin.eq_13 intBin.eq_14 shV strBin.eq_1 strBin.eq_2 strBin.eq_3 strBin.eq_4 strBin.eq_5 strBin.eq_6 strBin.eq_7 binV.eq_1 binV.eq_2 binA.eq_1 ev.eq_1 ev.eq_2 ev.eq_3 ev.eq_4 ev.eq_5 asI.eq_1 guardOf.eq_1 guardOf.eq_2 rdRow.eq_1 rdRow.eq_2 tov.eq_1 tov.eq_2 tov.eq_3
attribute [simp] setG repl find_cons find_nil evs mexit MO.loud unA optL bnds cellRd layP mkEl zOf buildP buildL strike_nil strike_cons setIn_nil setIn_cons envOf
@[simp] theorem denl_nl : denl .nl = .sl 1 [] := rfl
@[simp] theorem denl_w (v : Value) : denl (.w v) = .w v := rfl
@[simp] theorem denl_sl (sz : Nat) (l : List PV) : denl (.sl sz l) = .sl sz l := rfl
@[simp] theorem denl_st (l : List PV) : denl (.st l) = .st l := rfl
@[simp] theorem denl_ifc (t : Nat) (p : PV) : denl (.ifc t p) = .ifc t p := rfl
@[simp] theorem decR_D2 (b : Bool) (k : IntKind) (i : Int) : decR (.st [.w (.bool b), .w (.int k i)]) = none := rfl
@[simp] theorem decR_D4 (b : Bool) (k k1 k2 : IntKind) (i j c : Int) : decR (.st [.w (.bool b), .w (.int k i), .w (.int k1 j), .w (.int k2 c)]) = none := rfl
attribute [simp] decD.eq_1 decD.eq_2 dAt.eq_1 dAt.eq_2 dOld
@[simp] theorem nlen_v (H : Heap) (p : PV) : nlen H (.v p) = none := rfl
@[simp] theorem nlen_h (H : Heap) (id : Nat) : nlen H (.h id) = match find H id with | some e => if e.sz = 0 ∧ e.fro = false then (match e.l with | _ :: rest => some rest.length | [] => none) else none | none => none := rfl
attribute [simp] sttM derefN ldS noSt.eq_1 noSt.eq_2 ldX sttN decR.eq_1 decR.eq_2 eqCells.eq_1 eqCells.eq_2 eqCells.eq_3 convE
attribute [simp] passA passAs passR retA resX resXs newOf conv convs EnvLe HeapLe frz frzs idx passH bk backA backAs strikes outH fnOf flatA flatAs AV.men AV.mens

end Go.AM
/- Texts as lists of bytes, words as lists of texts. -/
set_option linter.all false
namespace Go.AM
open Go
variable [dr : Inhabited Prop]

abbrev Bs := List UInt8

/-- A text. -/
def bs (l : Bs) : ByteArray := ⟨l.toArray⟩

theorem bs_size (l : Bs) : (bs l).size = l.length := by simp [bs, ByteArray.size]
theorem bs_data (l : Bs) : (bs l).data = l.toArray := rfl
theorem bs_list (l : Bs) : (bs l).data.toList = l := by simp [bs]
theorem bs_mk (l : Bs) : (⟨l.toArray⟩ : ByteArray) = bs l := rfl
theorem bs_inj {a b : Bs} : bs a = bs b ↔ a = b := by simp [bs]
theorem bs_toList (l : Bs) : (bs l).toList = l := by rw [Lib.toList_data, bs_list]
theorem bs_extract (l : Bs) (i j : Nat) : (bs l).extract i j = bs ((l.drop i).take (j - i)) := by
  rw [Lib.extract_eq, bs_list]; rfl
theorem bs_append (a b : Bs) : bs a ++ bs b = bs (a ++ b) := by
  apply ByteArray.ext
  simp [bs]
theorem bs_all (b : ByteArray) : ∃ l, b = bs l := ⟨b.data.toList, by simp [bs]⟩
/-- The order of texts. -/
def ltB (a b : Bs) : Bool := Op.bytesLess a b
theorem slt_bs (a b : Bs) : slt (bs a) (bs b) = ltB a b := by simp [slt, bs_toList, ltB]

abbrev AV.I (n : Int) : AV := .v (.w (.int .i64 n))
abbrev AV.B (b : Bool) : AV := .v (.w (.bool b))
abbrev AV.S (l : Bs) : AV := .v (.w (.string (bs l)))
/-- A word as a value. -/
def PV.word (w : List Bs) : PV := .sl 1 (w.map fun s => .w (.string (bs s)))

theorem ci_le {n m : Nat} : ((no_index (OfNat.ofNat n) : Int) ≤ (m : Int)) ↔ (OfNat.ofNat n : Nat) ≤ m := by
  show (Int.ofNat n ≤ (m : Int)) ↔ n ≤ m; exact Int.ofNat_le
theorem ci_le2 {n m : Nat} : ((m : Int) ≤ (no_index (OfNat.ofNat n) : Int)) ↔ m ≤ (OfNat.ofNat n : Nat) := by
  show ((m : Int) ≤ Int.ofNat n) ↔ m ≤ n; exact Int.ofNat_le
theorem ci_lt {n m : Nat} : ((no_index (OfNat.ofNat n) : Int) < (m : Int)) ↔ (OfNat.ofNat n : Nat) < m := by
  show (Int.ofNat n < (m : Int)) ↔ n < m; exact Int.ofNat_lt
theorem ci_lt2 {n m : Nat} : ((m : Int) < (no_index (OfNat.ofNat n) : Int)) ↔ m < (OfNat.ofNat n : Nat) := by
  show ((m : Int) < Int.ofNat n) ↔ m < n; exact Int.ofNat_lt
theorem ci_eq {n m : Nat} : ((m : Int) = (no_index (OfNat.ofNat n) : Int)) ↔ m = (OfNat.ofNat n : Nat) := by
  show ((m : Int) = Int.ofNat n) ↔ m = n; exact Int.ofNat_inj
theorem ci_lnat {m : Nat} : ((OfNat.ofNat m : Nat) : Int) = (OfNat.ofNat m : Int) := rfl

/-! rows, read up to a place -/
theorem take_all {α : Type} (p : α → Bool) (l : List α) {i : Nat} (h : i < l.length) (hi : (l.take i).all p = true) (hc : p l[i] = true) : (l.take (i + 1)).all p = true := by
  rw [List.take_succ_eq_append_getElem h, List.all_append, hi]; simp [hc]
theorem all_no {α : Type} (p : α → Bool) (l : List α) {i : Nat} (h : i < l.length) (hc : p l[i] = false) : l.all p = false := by
  rw [List.all_eq_false]; exact ⟨l[i], List.getElem_mem h, by simp [hc]⟩
theorem take_end {α : Type} (p : α → Bool) (l : List α) {i : Nat} (hi : i ≤ l.length) (h : ¬ i < l.length) (ha : (l.take i).all p = true) : l.all p = true := by
  rwa [List.take_of_length_le (by omega)] at ha
theorem any_yes {α : Type} (p : α → Bool) (l : List α) {i : Nat} (h : i < l.length) (hc : p l[i] = true) : l.any p = true := by
  rw [List.any_eq_true]; exact ⟨l[i], List.getElem_mem h, hc⟩
theorem take_none {α : Type} (p : α → Bool) (l : List α) {i : Nat} (h : i < l.length) (hi : (l.take i).any p = false) (hc : p l[i] = false) : (l.take (i + 1)).any p = false := by
  rw [List.take_succ_eq_append_getElem h, List.any_append, hi]; simp [hc]
theorem none_end {α : Type} (p : α → Bool) (l : List α) {i : Nat} (hi : i ≤ l.length) (h : ¬ i < l.length) (ha : (l.take i).any p = false) : l.any p = false := by
  rwa [List.take_of_length_le (by omega)] at ha

theorem cellRd0 {x : PV} {cs : List PV} {sz : Nat} : cellRd (x :: cs) false 0 sz = some x := rfl
theorem cellRd1 {x y : PV} {cs : List PV} {sz : Nat} : cellRd (x :: y :: cs) false 1 sz = some y := rfl
theorem cellRd2 {x y z : PV} {cs : List PV} {sz : Nat} : cellRd (x :: y :: z :: cs) false 2 sz = some z := rfl
theorem cellRd3 {x y z u : PV} {cs : List PV} {sz : Nat} : cellRd (x :: y :: z :: u :: cs) false 3 sz = some u := rfl
theorem cellRd4 {x y z u v : PV} {cs : List PV} {sz : Nat} : cellRd (x :: y :: z :: u :: v :: cs) false 4 sz = some v := rfl
attribute [simp high] cellRd0 cellRd1 cellRd2 cellRd3 cellRd4
attribute [simp high] List.getElem?_cons_zero List.getElem?_cons_succ
attribute [simp] ci_le ci_le2 ci_lt ci_lt2 ci_eq
attribute [simp] PV.word bs_size bs_list bs_mk bs_inj bs_toList bs_extract bs_append slt_bs
end Go.AM
/- How an argument of a statement is opened: what the statement reads as data is a value of the walk. -/
set_option linter.all false
namespace Go.AM
open Go
variable [dr : Inhabited Prop]

/-- Readings of type t are values f a, with C a. -/
def Opn {α : Type} (P : Program) (t : TypeId) (f : α → PV) (C : α → Prop) : Prop :=
  ∀ (H : Type) (enc : TypeId × Value → H) (w : World) (held : Bool) (fuel : Nat) (cs : List Value) (x : DataW H × List MemPlace),
    DataW.trod enc P w 0 (fun _ => true) held fuel t cs = some x → (∀ n ∈ x.1.weights P t, n ≤ reachBytes) → ∃ a, RepC w (· < w.heap.size) (f a) cs ∧ C a

theorem opn_int {P : Program} {t : TypeId} {k : IntKind} (ht : P.underlying t = some (.int k)) : Opn P t (fun n : Int => .w (.int k n)) (fun n => (Lit.int k n).wf = true) := by
  intro H enc w held fuel cs x hx _
  obtain ⟨n, rfl, _, hw⟩ := DataW.trod_int ht hx
  exact ⟨n, .w rfl, hw⟩

theorem opn_bool {P : Program} {t : TypeId} (ht : P.underlying t = some .bool) : Opn P t (fun b : Bool => .w (.bool b)) (fun _ => True) := by
  intro H enc w held fuel cs x hx _
  obtain ⟨n, rfl, _⟩ := DataW.trod_bool ht hx
  exact ⟨n, .w rfl, trivial⟩

theorem opn_str {P : Program} {t : TypeId} (ht : P.underlying t = some .string) : Opn P t (fun s : Bs => .w (.string (bs s))) (fun s => s.length ≤ 140737488351232) := by
  intro H enc w held fuel cs x hx hw
  obtain ⟨s, rfl, rfl, _⟩ := DataW.trod_string ht hx
  obtain ⟨l, rfl⟩ := bs_all s
  refine ⟨l, .w rfl, ?_⟩
  have := hw (bs l).data.toList.length (by simp [DataW.weights])
  rw [bs_list] at this
  exact this

theorem weightsAll_mem {H : Type} {P : Program} {e : TypeId} : ∀ {ds : List (DataW H)} {d : DataW H}, d ∈ ds → ∀ n ∈ d.weights P e, n ∈ DataW.weightsAll P e ds
  | [], _, h, _, _ => by cases h
  | d0 :: ds, d, h, n, hn => by
    rw [DataW.weightsAll]
    rcases List.mem_cons.1 h with rfl | h
    · exact List.mem_append_left _ hn
    · exact List.mem_append_right _ (weightsAll_mem h n hn)

theorem cells_get {w : World} {base : Nat} {a : Addr} {n : Nat} {cs : List Value} (h : w.cells? base a n = some cs) :
    cs.length = n ∧ ∀ i u, cs[i]? = some u → w.cell? (a.add i) = some u := by
  unfold World.cells? at h
  split at h
  · refine ⟨by simpa using mapM_some_length h, fun i u hu => ?_⟩
    have hl := mapM_some_length h
    have hi : i < n := by have := (List.getElem?_eq_some_iff.1 hu).1; simp at hl; omega
    have := mapM_some_get h i i (by simp [hi])
    exact this.trans hu
  · cases h

/-- A cell that is read lies in a block of cells. -/
theorem cell_blk {w : World} {a : Addr} {v : Value} (h : w.cell? a = some v) : ∃ c, World.row w a.block c ∧ a.spot = none ∧ c[a.off]? = some v ∧ a.block < w.heap.size := by
  unfold World.cell? at h
  split at h
  · rename_i c t fr hc
    split at h
    · cases h
    · rename_i hs
      refine ⟨c.toList, ⟨t, fr, by simpa using hc⟩, by simpa using hs, by simpa using h, ?_⟩
      rcases Nat.lt_or_ge a.block w.heap.size with hl | hl
      · exact hl
      · rw [Array.getElem?_eq_none (by omega)] at hc; cases hc
  · cases h

theorem opn_slice {α : Type} {P : Program} {t e b sz : Nat} {f : α → PV} {C : α → Prop} (ht : P.underlying t = some (.slice e)) (hz : P.cellsOf e = sz) (hs : sz ≠ 0) (hbb : P.bytesOf e = b) (h : Opn P e f C) :
    Opn P t (fun l : List α => .sl sz (l.map f)) (fun l => l.length * b ≤ 140737488351232 ∧ ∀ x ∈ l, C x) := by
  subst hbb hz
  intro H enc w held fuel cs x hx hw
  rcases DataW.trod_slice ht hx with ⟨rfl, rfl⟩ | ⟨a, len, cap, elems, rest, n, rfl, rfl, rfl, _, hl, hm, hlen, hel, hsp, _⟩
  · exact ⟨[], .nil, by simp, by simp⟩
  obtain ⟨hrl, hrest⟩ := hsp rfl
  have hall : ∀ i, i < cap → ∀ j, j < P.cellsOf e → ∃ v, w.cell? (a.add (i * P.cellsOf e + j)) = some v := by
    intro i hi j hj
    have : ∃ c, w.cells? 0 (a.add (i * P.cellsOf e)) (P.cellsOf e) = some c := by
      by_cases h1 : i < len
      · have h0 := hel i h1
        rw [List.getElem?_eq_getElem (by omega : i < elems.length), Option.bind_eq_some_iff] at h0
        obtain ⟨c, hc, _⟩ := h0; exact ⟨c, hc⟩
      · have h0 := hrest (i - len) (by omega)
        rw [List.getElem?_eq_getElem (by omega : i - len < rest.length), Option.bind_eq_some_iff, show len + (i - len) = i by omega] at h0
        obtain ⟨c, hc, _⟩ := h0; exact ⟨c, hc⟩
    obtain ⟨c, hc⟩ := this
    obtain ⟨h1, h2⟩ := cells_get hc
    have := h2 j c[j] (by rw [List.getElem?_eq_getElem])
    rw [Addr.add_add] at this
    exact ⟨_, this⟩
  have each : ∀ i, i < len → ∃ y : α, ∃ c, c.length = P.cellsOf e ∧ RepC w (· < w.heap.size) (f y) c ∧ (∀ j u, c[j]? = some u → w.cell? (a.add (i * P.cellsOf e + j)) = some u) ∧ C y := by
    intro i hi
    have h0 := hel i hi
    have hi' : i < elems.length := by omega
    rw [List.getElem?_eq_getElem hi', Option.bind_eq_some_iff] at h0
    obtain ⟨c, hc, hd⟩ := h0
    obtain ⟨hcl, hcc⟩ := cells_get hc
    obtain ⟨y, hk, hb⟩ := h H enc w held n c _ hd (fun m hmm => hw m (by
      rw [DataW.weights, ht]
      refine List.mem_cons_of_mem _ (List.mem_append_left _ (weightsAll_mem (d := elems[i].1) (List.mem_map.2 ⟨elems[i], List.getElem_mem hi', rfl⟩) m hmm))))
    refine ⟨y, c, hcl, hk, fun j u hj => ?_, hb⟩
    have := hcc j u hj
    rwa [Addr.add_add] at this
  rcases Nat.eq_zero_or_pos cap with hcap | hcap
  · subst hcap
    obtain rfl : len = 0 := by omega
    exact ⟨[], .nil, by simp, by simp⟩
  obtain ⟨v0, hv0⟩ := hall (cap - 1) (by omega) (P.cellsOf e - 1) (by omega)
  obtain ⟨v1, hv1⟩ := hall 0 hcap 0 (by omega)
  obtain ⟨c0, hrow, hspot, hv1', hlt⟩ := cell_blk (by simpa [Addr.add] using hv1)
  obtain ⟨blk, off, spot⟩ := a
  simp only at hspot hlt hv1' hrow
  subst hspot
  have hcell : ∀ k v, w.cell? ((⟨blk, off, none⟩ : Addr).add k) = some v → c0[off + k]? = some v := by
    intro k v hk
    have hb' : ((⟨blk, off, none⟩ : Addr).add k) = ⟨blk, off + k, none⟩ := by
      unfold Addr.add; split
      · rename_i h0; subst h0; rfl
      · rfl
    rw [hb'] at hk
    obtain ⟨c1, hr1, _, h3, _⟩ := cell_blk hk
    obtain ⟨t1, f1, q1⟩ := hr1
    obtain ⟨t0, f0, q0⟩ := hrow
    simp only at q1 h3
    rw [q0] at q1
    have : c0 = c1 := by simpa using congrArg (fun o => match o with | some (Obj.cells c _ _) => c.toList | _ => []) q1
    rw [this]; exact h3
  have hlast := hcell _ _ hv0
  have hbound : off + cap * P.cellsOf e ≤ c0.length := by
    have h1 := (List.getElem?_eq_some_iff.1 hlast).1
    have h2 : (cap - 1) * P.cellsOf e + P.cellsOf e = cap * P.cellsOf e := by
      rw [← Nat.succ_mul]; congr 1; omega
    have h3 : 0 < P.cellsOf e := by omega
    omega
  have build : ∀ m, m ≤ len → ∃ l : List α, l.length = m ∧ (∀ y ∈ l, C y) ∧ RepL w (· < w.heap.size) (P.cellsOf e) (l.map f) ((c0.drop off).take (m * P.cellsOf e)) := by
    intro m
    induction m with
    | zero => intro _; exact ⟨[], rfl, by simp, by simpa using RepL.nil⟩
    | succ m ih =>
      intro hm1
      obtain ⟨l, h1, h2, h3⟩ := ih (by omega)
      obtain ⟨y, c, g1, g2, g3, g4⟩ := each m (by omega)
      refine ⟨l ++ [y], by simp [h1], ?_, ?_⟩
      · intro z hz
        rcases List.mem_append.1 hz with hz | hz
        · exact h2 z hz
        · simp at hz; subst hz; exact g4
      · rw [List.map_append]
        have e1 : (c0.drop off).take ((m + 1) * P.cellsOf e) = (c0.drop off).take (m * P.cellsOf e) ++ c := by
          rw [Nat.succ_mul, List.take_add]
          congr 1
          apply List.ext_getElem?
          intro j
          rw [List.getElem?_take, List.getElem?_drop, List.getElem?_drop]
          by_cases hj : j < P.cellsOf e
          · rw [if_pos hj]
            have hj' : j < c.length := by omega
            have := hcell _ _ (g3 j c[j] (by rw [List.getElem?_eq_getElem]))
            rw [this, List.getElem?_eq_getElem hj']
          · rw [if_neg hj, List.getElem?_eq_none (by omega)]
        rw [e1]
        refine h3.append ?_
        have := RepL.cons g1 g2 RepL.nil
        simpa using this
  obtain ⟨l, h1, h2, h3⟩ := build len (Nat.le_refl _)
  refine ⟨l, ?_, ?_, h2⟩
  · have hl' : (l.map f).length = len := by simp [h1]
    rw [← hl'] at h3 ⊢
    exact RepC.sl (b := blk) (off := off) (cap := cap) (c := c0) hlt hrow hbound (by omega) h3
  · have := hw ((elems.length + rest.length) * P.bytesOf e) (by rw [DataW.weights, ht]; simp)
    rw [h1, ← hlen]
    exact Nat.le_trans (Nat.mul_le_mul_right _ (Nat.le_add_right _ _)) this

/-! ### structs of one-cell fields, arrays of one-cell elements -/
def OpnR {α : Type} (P : Program) (ts : List TypeId) (f : α → List PV) (C : α → Prop) : Prop :=
  ∀ (H : Type) (enc : TypeId × Value → H) (w : World) (held : Bool) (fuel : Nat) (cs : List Value) (xs : List (DataW H × List MemPlace)),
    cs.length = ts.length → xs.length = ts.length → (∀ (i : Nat) (t : TypeId), ts[i]? = some t → DataW.trod enc P w 0 (fun _ => true) held fuel t ((cs.drop i).take 1) = xs[i]?) →
    (∀ (i : Nat) (t : TypeId) x, ts[i]? = some t → xs[i]? = some x → ∀ n ∈ x.1.weights P t, n ≤ reachBytes) → ∃ a, RepL w (· < w.heap.size) 1 (f a) cs ∧ (∀ p ∈ f a, p.isSt = false) ∧ C a

theorem opnR_nil {P : Program} : OpnR P [] (fun _ : Unit => []) (fun _ => True) := by
  intro H enc w held fuel cs xs h1 h2 h3 h4
  obtain rfl : cs = [] := by simpa using h1
  exact ⟨(), .nil, by simp, trivial⟩

theorem opnR_cons {α β : Type} {P : Program} {t : TypeId} {ts : List TypeId} {f : α → PV} {C : α → Prop} {g : β → List PV} {D : β → Prop} (hf : ∀ a, (f a).isSt = false) (h : Opn P t f C) (hr : OpnR P ts g D) :
    OpnR P (t :: ts) (fun q : α × β => f q.1 :: g q.2) (fun q => C q.1 ∧ D q.2) := by
  intro H enc w held fuel cs xs h1 h2 h3 h4
  cases cs with
  | nil => simp at h1
  | cons c cs =>
    cases xs with
    | nil => simp at h2
    | cons x xs =>
      have h0 := h3 0 t rfl
      simp at h0
      obtain ⟨a, q1, q2⟩ := h H enc w held fuel [c] x h0 (h4 0 t x rfl rfl)
      obtain ⟨b, g1, g2, g3⟩ := hr H enc w held fuel cs xs (by simpa using h1) (by simpa using h2) (fun i t' ht' => by simpa using h3 (i + 1) t' (by simpa using ht')) (fun i t' x' a1 a2 => h4 (i + 1) t' x' (by simpa using a1) (by simpa using a2))
      refine ⟨(a, b), ?_, ?_, q2, g3⟩
      · exact RepL.cons (vs := [c]) rfl q1 g1
      · intro p hp
        rcases List.mem_cons.1 hp with rfl | hp
        · exact hf a
        · exact g2 p hp

theorem opn_struct {α : Type} {P : Program} {t : TypeId} {fs : Array Field} {ts : List TypeId} {f : α → List PV} {C : α → Prop} (ht : P.underlying t = some (.struct fs)) (hts : fs.toList.map (·.type) = ts)
    (hoff : fs.toList.map (·.offset) = List.range ts.length) (hsz : P.cellsOf t = ts.length) (h1 : ∀ t' ∈ ts, P.cellsOf t' = 1) (h : OpnR P ts f C) : Opn P t (fun a => .st (f a)) C := by
  intro H enc w held fuel cs x hx hw
  obtain ⟨xs, n, rfl, rfl, hl, hxl, hel⟩ := DataW.trod_struct ht hx
  have hfl : fs.size = ts.length := by rw [← hts]; simp
  have hget : ∀ (i : Nat) (t' : TypeId), ts[i]? = some t' → ∃ f', fs[i]? = some f' ∧ f'.type = t' ∧ f'.offset = i := by
    intro i t' hi
    rw [← hts, List.getElem?_map, Option.map_eq_some_iff] at hi
    obtain ⟨f', hf', rfl⟩ := hi
    refine ⟨f', by simpa using hf', rfl, ?_⟩
    have := congrArg (fun l => l[i]?) hoff
    simp only [List.getElem?_map, hf', Option.map_some] at this
    have hlt : i < ts.length := by have := (List.getElem?_eq_some_iff.1 hf').1; simp at this; omega
    rw [List.getElem?_range hlt] at this
    exact Option.some.inj this
  obtain ⟨a, q1, q2, q3⟩ := h H enc w held n cs xs (by omega) (by omega) (fun i t' hi => by
      obtain ⟨f', g1, g2, g3⟩ := hget i t' hi
      have := hel i f' g1
      rw [g2, g3, h1 t' (List.mem_of_getElem? hi)] at this
      exact this) (fun i t' y hi hy m hm => hw m (by
      rw [DataW.weights, ht]
      refine DataW.weights_mem_each (j := i) (t := t') (d := y.1) ?_ ?_ m hm
      · rw [hts]; exact hi
      · rw [List.getElem?_map, hy]; rfl))
  exact ⟨a, .st q2 q1, q3⟩

theorem opn_array {α : Type} {P : Program} {t e : TypeId} {n : Nat} {f : α → List PV} {C : α → Prop} (ht : P.underlying t = some (.array n e)) (hsz : P.cellsOf t = n) (h1 : P.cellsOf e = 1) (h : OpnR P (List.replicate n e) f C) : Opn P t (fun a => .st (f a)) C := by
  intro H enc w held fuel cs x hx hw
  obtain ⟨xs, m, rfl, rfl, hl, hxl, hel⟩ := DataW.trod_array ht hx
  obtain ⟨a, q1, q2, q3⟩ := h H enc w held m cs xs (by simp; omega) (by simp; omega) (fun i t' hi => by
      obtain ⟨hlt, he⟩ := List.getElem?_eq_some_iff.1 hi
      simp at hlt he
      subst he
      have := hel i hlt
      rwa [h1, Nat.mul_one] at this) (fun i t' y hi hy k hk => hw k (by
      rw [DataW.weights, ht]
      obtain ⟨hlt, he⟩ := List.getElem?_eq_some_iff.1 hi
      simp at he
      subst he
      exact weightsAll_mem (d := y.1) (List.mem_map.2 ⟨y, List.mem_of_getElem? hy, rfl⟩) k hk))
  exact ⟨a, .st q2 q1, q3⟩

/-- An argument of the row, opened. -/
theorem open_argA {α : Type} {P : Program} {t : TypeId} {f : α → PV} {C : α → Prop} (h : Opn P t f C) {H : Type} {enc : TypeId × Value → H} {W : World} {held : Bool} {ts : List TypeId} {ds : List (DataW H)} {j : Nat} {v : Value} {dd : DataW H} {ps : List MemPlace}
    (hsz : (DataW.weightsEach P ts ds).all (· ≤ reachBytes) = true) (ht : ts[j]? = some t) (hd : ds[j]? = some dd) (ha : DataW.Trod enc P W 0 (fun _ => true) held t v dd ps) : ∃ a, RepC W (· < W.heap.size) (f a) v.cells.toList ∧ C a := by
  obtain ⟨fuel, hf⟩ := ha
  refine h H enc W held fuel _ _ hf (fun n hn => ?_)
  have := List.all_eq_true.1 hsz n (DataW.weights_mem_each ht hd n hn)
  simpa using this
end Go.AM
/- From the walk of a statement's function to the row. -/
set_option linter.all false
namespace Go.AM
open Go

theorem FOk.row {d : Inhabited Prop} {P : Program} {f : FuncId} {args : List AV} (h : FOk P f args [] (.v (.w (.bool true))) []) {W : World} {vals : List Value} (hv : RepAs W (· < W.heap.size) (fun _ => default) [] args vals) :
    Calls P f vals.toArray W fun e W' => e = .returned (.bool true) ∧ Go.RowKit.Below W.heap.size W W' := by
  have no : ∀ j, ¬ Own [] (fun _ => none) j := by rintro j ⟨id, e, h1, _⟩; simp [find] at h1
  refine (h.2 W (· < W.heap.size) vals (fun _ => default) (fun _ => none) ?_ ?_).mono fun e W' he => ?_
  · exact ⟨fun id e h => by simp [find] at h, fun id id' e e' b h => by simp [find] at h, fun id e b h => by simp [find] at h, Nat.le_refl _, fun _ _ _ => rfl, rfl, rfl, .refl _⟩
  · exact RepAs.mono (fun j hj => ⟨⟨⟨.inl hj, hj⟩, no j⟩, rfl⟩) args vals (fun id _ e' he' => by simp [find] at he') hv
  · obtain ⟨v, hdr', ow', rfl, hm, hr, _⟩ := he
    refine ⟨?_, hm.os, hm.tape, hm.output.1, hm.size, fun k hk => hm.frame k hk (fun ho => no k ho)⟩
    simp only [RepA] at hr
    rw [hr.wInv.1]

theorem RepV.ofSt {W : World} {ok : Nat → Prop} {p : PV} {cs : Array Value} (hp : p.isSt = true) (h : RepC W ok p cs.toList) : RepV W ok p (.agg cs) := by
  unfold RepV; rw [if_pos hp]; exact ⟨cs.toList, by simp, h⟩

theorem RepC.slV {W : World} {ok : Nat → Prop} {sz : Nat} {l : List PV} {cs : List Value} (h : RepC W ok (.sl sz l) cs) : ∃ a n c, cs = [.slice a n c] := by
  cases h
  · exact ⟨_, _, _, rfl⟩
  · exact ⟨_, _, _, rfl⟩

theorem okWide_array {P : Program} {w : World} {r : Reach} {base n : Nat} {t e : TypeId} {v : Value} (ht : P.underlying t = some (.array n e)) (h : Value.okWide P w r base t v) : ∃ cs, v = .agg cs ∧ cs.size = P.cellsOf t := by
  unfold Value.okWide at h
  rw [ht] at h
  obtain ⟨cs, h1, h2, _⟩ := h
  exact ⟨cs, h1, h2⟩
end Go.AM
/- Loops whose rows are found by their slots; more finishes; more reckoning of numbers. -/
set_option linter.all false
namespace Go.AM
open Go
variable [dr : Inhabited Prop]

/-- The rows to keep, by the slots that hold them. -/
def kpA (E : Env) : List (Nat × Nat) → List (Nat × Nat)
  | [] => []
  | (a, t) :: l => match find E t with
    | some (.h id) => (a, id) :: kpA E l
    | some (.ptr id _ _) => (a, id) :: kpA E l
    | _ => kpA E l
attribute [simp] kpA

section
variable {P : Program} {D : Fd} {G : Gl} {k : List MI} {s s' : St}
/-- A loop whose rounds begin at states st i; tg: the numbers of its rows, and the slots that hold them. -/
theorem Run.loopA {x : MC} {ι : Type} (tg : List (Nat × Nat)) (I : ι → Prop) (st : ι → St) (ms : ι → Nat) (i0 : ι) (hl : D.rs.length ≤ 4) (hle : Le G.nin (kpA s.env tg) s (st i0)) (h0 : I i0)
    (step : ∀ i, I i → (∀ (j : ι) (s' : St), I j → ms j < ms i → Le G.nin (kpA s'.env tg) s' (st j) → Run P D G (.inLoop x :: k) s') → Ex P D G 4000 .ctl (.code x :: .inLoop x :: k) (st i)) : Run P D G (.code (.loop x) :: k) s :=
  Run.loopI I st ms i0 _ hl hle h0 fun i hi ih => step i hi fun j s' hj hm hle' => ih j _ s' hj hm hle'

/-- Ahead to a place from which all is known by states st j. -/
theorem Run.cutA {a b : MC} {ι : Type} (tg : List (Nat × Nat)) (J : ι → Prop) (st : ι → St) (hl : D.rs.length ≤ 4) (hk : ∀ j, J j → Ex P D G 4000 .ctl (.code b :: k) (st j))
    (h : (∀ (j : ι) (s' : St), J j → Le G.nin (kpA s'.env tg) s' (st j) → Run P D G (.code b :: k) s') → Ex P D G 4000 .ctl (.code a :: .stop :: .code b :: k) s) : Run P D G (.code (.seq a b) :: k) s :=
  Run.cut J st hl hk fun h' => h fun j s' hj hle => h' j _ s' hj hle

/-- The place behind a loop's block, from which all is known by states st j. -/
theorem Run.cutB {x : MC} {id : Nat} {ι : Type} (tg : List (Nat × Nat)) (J : ι → Prop) (st : ι → St) (hl : D.rs.length ≤ 4) (hk : ∀ j, J j → Ex P D G 4000 .ctl k (st j))
    (h : (∀ (j : ι) (s' : St), J j → Le G.nin (kpA s'.env tg) s' (st j) → Run P D G k s') → Run P D G (.code (.loop x) :: .inBlock id :: .stop :: k) s) : Run P D G (.code (.loop x) :: .inBlock id :: k) s := by
  have h1 := h fun j s' hj hle => Run.le hle (Ex.run hl (hk j hj))
  intro C fn a W hdr ow items hC hfn r hm b cs hb hbk
  cases hm with
  | cons hx hm => cases hm with
    | cons hy hm => exact h1 C fn a W hdr ow _ hC hfn r (.cons hx (.cons hy (.stop hm))) b cs hb hbk

/-- A row that was handed in is handed back. -/
theorem Ends.one {x : AV} (hn : G.nin = 1) (h1 : retA s.heap s.env D.rs = some x) (h2 : passR s.heap [0] x = some G.res) (h3 : passH s.heap 0 [0] = G.H') (h4 : ∀ p ∈ G.H', p.2.sz ≠ 0 := by simp) : Ends D G s :=
  ⟨[0], x, by simp, h1, h2, h3, h4, fun k hk _ => by
    have : k = 0 := by omega
    subst this; rfl⟩
/-- A new row goes out. -/
theorem Ends.new {x : AV} (id : Nat) (hn : G.nin = 0) (h1 : retA s.heap s.env D.rs = some x) (h2 : passR s.heap [id] x = some G.res) (h3 : passH s.heap 0 [id] = G.H') (h4 : ∀ p ∈ G.H', p.2.sz ≠ 0 := by simp) : Ends D G s :=
  ⟨[id], x, by simp, h1, h2, h3, h4, fun k hk _ => by omega⟩
/-- A row that was handed in has been taken over: it goes out under the next number. -/
theorem Ends.moved {x : AV} (a id : Nat) (hd : a ≠ id) (hn : G.nin = 1) (h1 : retA s.heap s.env D.rs = some x) (h2 : passR s.heap [a, id] x = some G.res) (h3 : passH s.heap 0 [a, id] = G.H') (h5 : find G.H' 0 = none := by simp) (h4 : ∀ p ∈ G.H', p.2.sz ≠ 0 := by simp) : Ends D G s :=
  ⟨[a, id], x, by simp [hd], h1, h2, h3, h4, fun k hk h => by
    have : k = 0 := by omega
    subst this; rw [h5] at h; cases h⟩
end

theorem wrap_u64 {x : Int} (h0 : 0 ≤ x) (h : x ≤ 18446744073709551615) : IntKind.u64.wrap x = x := IntWalk.u64_in x ⟨h0, h⟩
theorem half_eq {i j : Nat} (h : i + j ≤ 9223372036854775807) : IntKind.i64.wrap (((i : Int) + (j : Int)).fdiv (2 ^ min 1 IntKind.u64.bits)) = (((i + j) / 2 : Nat) : Int) := by
  have e : (2 : Int) ^ min 1 IntKind.u64.bits = 2 := by decide
  rw [e, wrap_i64] <;> rw [Int.fdiv_eq_ediv_of_nonneg _ (by decide)] <;> omega
theorem bs_ite {c : Prop} [Decidable c] (x y : Bs) : (if c then bs x else bs y) = bs (if c then x else y) := by split <;> rfl
theorem toNat1 (i : Nat) : ((i : Int) + 1).toNat = i + 1 := by omega
theorem toNat2 (i : Nat) : ((i : Int) + 2).toNat = i + 2 := by omega
theorem nn1 (i : Nat) : (0 : Int) ≤ (i : Int) + 1 := by omega
theorem nn2 (i : Nat) : (0 : Int) ≤ (i : Int) + 2 := by omega
theorem lt1 {i n : Nat} : ((i : Int) + 1 < (n : Int)) ↔ i + 1 < n := by omega
theorem lt1c {i n : Nat} : ((i : Int) + 1 < (no_index (OfNat.ofNat n) : Int)) ↔ i + 1 < (OfNat.ofNat n : Nat) := by
  show ((i : Int) + 1 < (n : Int)) ↔ i + 1 < n; omega
theorem lt2c {i n : Nat} : ((i : Int) + 2 < (no_index (OfNat.ofNat n) : Int)) ↔ i + 2 < (OfNat.ofNat n : Nat) := by
  show ((i : Int) + 2 < (n : Int)) ↔ i + 2 < n; omega
theorem le1 {i n : Nat} : ((n : Int) ≤ (i : Int) + 1) ↔ n ≤ i + 1 := by omega
attribute [simp] toNat1 toNat2 nn1 nn2 lt1 lt1c lt2c le1
theorem drop_at {α : Type} {l : List α} {i : Nat} (h : i < l.length) : l.drop i = l[i] :: l.drop (i + 1) := List.drop_eq_getElem_cons h
theorem drop_no {α : Type} {l : List α} {i : Nat} (h : ¬ i < l.length) : l.drop i = [] := List.drop_of_length_le (by omega)
end Go.AM

/- Running through the code by reckoning. -/
import Derived.Test.YtphjjlhpepmofaaAM22
set_option linter.all false
namespace Go.AM
open Go

/-- What is being done: code ahead; operations of a region; a guard; a value to be put; a store; a test. -/
inductive Md where
  | ctl
  | ops (q : Bool) (L : List MO)
  | gd (r : Option Bool) (o : MO) (q : Bool) (L : List MO)
  | put (d : Nat) (r : Option (AV × Heap)) (q : Bool) (L : List MO)
  | sto (r : Option (AV × Heap)) (q : Bool) (L : List MO)
  | cnd (r : Option AV) (a b : MC)

/-- A truth that is tested is known behind the test. -/
def repl : Env → Nat → Bool → Env
  | [], _, _ => []
  | (k, x) :: E, g, b => if g = k then (match x with | .v (.w (.bool _)) => (k, .v (.w (.bool b))) :: E | _ => (k, x) :: E) else (k, x) :: repl E g b

def setG (E : Env) : Option (Nat × Bool) → Bool → Env
  | none, _ => E
  | some (g, w), t => repl E g (t == w)

theorem repl_eq : ∀ {E : Env} {g : Nat} {b : Bool}, find E g = some (.v (.w (.bool b))) → repl E g b = E
  | [], _, _, h => rfl
  | (k, x) :: E, g, b, h => by
    simp only [find] at h
    simp only [repl]
    split at h
    · rename_i hk; cases h; rw [if_pos hk]
    · rename_i hk; rw [if_neg hk, repl_eq h]

theorem repl_no : ∀ {E : Env} {g : Nat} {b : Bool} {x : AV}, find E g = some x → (∀ b', x ≠ .v (.w (.bool b'))) → repl E g b = E
  | [], _, _, _, h, _ => rfl
  | (k, y) :: E, g, b, x, h, hx => by
    simp only [find] at h
    simp only [repl]
    split at h
    · rename_i hk
      cases h
      rw [if_pos hk]
      split
      · exact absurd rfl (hx _)
      · rfl
    · rename_i hk; rw [if_neg hk, repl_no h hx]

theorem setG_eq {E : Env} {g : Option (Nat × Bool)} {t : Bool} (h : guardOf E g = some t) : setG E g t = E := by
  cases g with
  | none => rfl
  | some p =>
    obtain ⟨g, w⟩ := p
    simp only [guardOf] at h
    split at h
    · rename_i b hb
      cases h
      simp only [setG]
      apply repl_eq
      rw [hb]
      cases b <;> cases w <;> rfl
    · rename_i l hb
      exact repl_no hb (by intro b; simp)
    · cases h

def CallX (P : Program) (q : Bool) (s : St) (d : Nat) (f : Opd) (as : List Opd) (s' : St) : Prop :=
  (∃ x N, CallQ P s d f as x N ∧ s' = ⟨(d, x) :: s.env, N ++ s.heap, s.nx⟩) ∨ (q = false ∧ CallOk P s d f as s')

def Ex (P : Program) (D : Fd) (G : Gl) : Nat → Md → List MI → St → Prop
  | 0, .ctl, k, s => Run P D G k s
  | 0, _, _, _ => False
  | _ + 1, .ctl, [], s => Ends D G s
  | m + 1, .ctl, .code c :: k, s => match c with
    | .ret => Ends D G s
    | .skip => Ex P D G m .ctl k s
    | .seq a b => Ex P D G m .ctl (.code a :: .code b :: k) s
    | .cond c a b => Ex P D G m (.cnd (ev s.env c) a b) k s
    | .block id b => Ex P D G m .ctl (.code b :: .inBlock id :: k) s
    | .exit id => match mexit id k with
      | some k' => Ex P D G m .ctl k' s
      | none => False
    | .reg q L => Ex P D G m (.ops q L) k s
    | .loop b => Run P D G (.code (.loop b) :: k) s
  | m + 1, .ctl, .inBlock _ :: k, s => Ex P D G m .ctl k s
  | _ + 1, .ctl, .inLoop b :: k, s => Run P D G (.inLoop b :: k) s
  | _ + 1, .ctl, .stop :: k, s => Run P D G k s
  | m + 1, .cnd r a b, k, s => match r with
    | some (.v (.w (.bool t))) => (t = true → Ex P D G m .ctl (.code a :: k) s) ∧ (t = false → Ex P D G m .ctl (.code b :: k) s)
    | _ => False
  | m + 1, .ops q L, k, s => match L with
    | [] => Ex P D G m .ctl k ⟨s.env, s.heap, s.nx + 8192⟩
    | o :: L => Ex P D G m (.gd (guardOf s.env o.g) o q L) k s
  | m + 1, .gd r o q L, k, s => match r with
    | some t => (t = true → match o with
        | .op _ d mo => Ex P D G m (.put d (mval (q && !o.loud) (setG s.env o.g true) s.heap (s.nx + d) mo) q L) k ⟨setG s.env o.g true, s.heap, s.nx⟩
        | .store _ agg sz x v => Ex P D G m (.sto (mval (q && !o.loud) (setG s.env o.g true) s.heap s.nx (.stt agg sz x v)) q L) k ⟨setG s.env o.g true, s.heap, s.nx⟩
        | .call _ d f as => ∃ s', CallX P q ⟨setG s.env o.g true, s.heap, s.nx⟩ d f as s' ∧ Ex P D G m (.ops q L) k s') ∧
      (t = false → match o.dst with
        | some d => Ex P D G m (.ops q L) k ⟨(d, .tup []) :: setG s.env o.g false, s.heap, s.nx⟩
        | none => Ex P D G m (.ops q L) k ⟨setG s.env o.g false, s.heap, s.nx⟩)
    | none => False
  | m + 1, .put d r q L, k, s => match r with
    | some (x, H') => Ex P D G m (.ops q L) k ⟨(d, x) :: s.env, H', s.nx⟩
    | none => False
  | m + 1, .sto r q L, k, s => match r with
    | some (_, H') => Ex P D G m (.ops q L) k ⟨s.env, H', s.nx⟩
    | none => False

/-- A call, and what is ahead behind it. -/
def CallG (P : Program) (D : Fd) (G : Gl) (m : Nat) (q : Bool) (L : List MO) (k : List MI) (s : St) (d : Nat) (f : Opd) (as : List Opd) : Prop := ∃ s', CallX P q s d f as s' ∧ Ex P D G m (.ops q L) k s'

section sound
variable {P : Program} {D : Fd} {G : Gl}

/-- What each way of reckoning says. -/
def Says (P : Program) (D : Fd) (G : Gl) (md : Md) (k : List MI) (s : St) : Prop :=
  match md with
  | .ctl => Run P D G k s
  | .ops q L => ∃ s', RChain P q s L s' ∧ Run P D G k ⟨s'.env, s'.heap, s.nx + 8192⟩
  | .gd r o q L => r = guardOf s.env o.g → ∃ s', RChain P q s (o :: L) s' ∧ Run P D G k ⟨s'.env, s'.heap, s.nx + 8192⟩
  | .put d r q L => ∀ x H', r = some (x, H') → ∃ s', RChain P q ⟨(d, x) :: s.env, H', s.nx⟩ L s' ∧ Run P D G k ⟨s'.env, s'.heap, s.nx + 8192⟩
  | .sto r q L => ∀ x H', r = some (x, H') → ∃ s', RChain P q ⟨s.env, H', s.nx⟩ L s' ∧ Run P D G k ⟨s'.env, s'.heap, s.nx + 8192⟩
  | .cnd r a b => ∀ c, ev s.env c = r → Run P D G (.code (.cond c a b) :: k) s

theorem callX_step {q : Bool} {s s' : St} {g : Option (Nat × Bool)} {d : Nat} {f : Opd} {as : List Opd} (hg : guardOf s.env g = some true) (h : CallX P q s d f as s') : AStep P (q && !(MO.call g d f as).loud) s (.call g d f as) s' := by
  have e : (q && !(MO.call g d f as).loud) = q := by simp [MO.loud]
  rw [e]
  rcases h with ⟨x, N, h, rfl⟩ | ⟨rfl, h⟩
  · exact .callQ hg h
  · exact .call hg h rfl

theorem Ex.says (hl : D.rs.length ≤ 4) : ∀ (m : Nat) (md : Md) (k : List MI) (s : St), Ex P D G m md k s → Says P D G md k s := by
  intro m
  induction m with
  | zero =>
    intro md k s h
    cases md <;> simp only [Ex] at h
    exact h
  | succ m ih =>
    intro md k s h
    cases md with
    | ctl =>
      cases k with
      | nil => simp only [Ex] at h; exact Run.done hl h
      | cons x k =>
        cases x with
        | inBlock id => simp only [Ex] at h; exact (ih _ _ _ h : Run P D G k s).inBlock
        | inLoop b => simp only [Ex] at h; exact h
        | stop => simp only [Ex] at h; exact (h : Run P D G k s).stop
        | code c =>
          cases c with
          | skip => simp only [Ex] at h; exact (ih _ _ _ h : Run P D G k s).skip
          | ret => simp only [Ex] at h; exact Run.ret hl h
          | seq a b => simp only [Ex] at h; exact (ih _ _ _ h : Run P D G _ s).seq
          | block id b => simp only [Ex] at h; exact (ih _ _ _ h : Run P D G _ s).block
          | loop b => simp only [Ex] at h; exact h
          | exit id =>
            simp only [Ex] at h
            split at h
            · rename_i k' hk; exact (ih _ _ _ h : Run P D G _ s).exit hk
            · exact h.elim
          | reg q L =>
            simp only [Ex] at h
            obtain ⟨s', h1, h2⟩ := (ih _ _ _ h : ∃ s', RChain P q s L s' ∧ Run P D G k ⟨s'.env, s'.heap, s.nx + 8192⟩)
            exact Run.reg h1 h2
          | cond c a b =>
            simp only [Ex] at h
            exact ih _ _ _ h c rfl
    | cnd r a b =>
      intro c hc
      simp only [Ex] at h
      split at h
      · rename_i t
        exact Run.cond hc (fun ht => ih _ _ _ (h.1 ht)) (fun ht => ih _ _ _ (h.2 ht))
      · exact h.elim
    | ops q L =>
      simp only [Ex] at h
      cases L with
      | nil => exact ⟨s, .nil, ih _ _ _ h⟩
      | cons o L => exact ih _ _ _ h rfl
    | gd r o q L =>
      intro hr
      simp only [Ex] at h
      cases r with
      | none => exact h.elim
      | some t =>
        simp only at h
        cases t with
        | true =>
          have h1 := h.1 rfl
          rw [setG_eq hr.symm] at h1
          cases o with
          | op g d mo =>
            simp only at h1
            have h2 := ih _ _ _ h1
            cases hm : mval (q && !(MO.op g d mo).loud) s.env s.heap (s.nx + d) mo with
            | none => rw [hm] at h1; cases m <;> simp [Ex] at h1
            | some r =>
              obtain ⟨x, H'⟩ := r
              rw [hm] at h2
              obtain ⟨s', g1, g2⟩ := h2 x H' rfl
              exact ⟨s', .cons (.op hr.symm hm) g1, g2⟩
          | store g agg sz x v =>
            simp only at h1
            have h2 := ih _ _ _ h1
            cases hm : mval (q && !(MO.store g agg sz x v).loud) s.env s.heap s.nx (.stt agg sz x v) with
            | none => rw [hm] at h1; cases m <;> simp [Ex] at h1
            | some r =>
              obtain ⟨y, H'⟩ := r
              rw [hm] at h2
              obtain ⟨s', g1, g2⟩ := h2 y H' rfl
              exact ⟨s', .cons (.store hr.symm hm) g1, g2⟩
          | call g d f as =>
            obtain ⟨s1, h2, h3⟩ := h1
            have hst := callX_step (g := g) hr.symm h2
            obtain ⟨s', g1, g2⟩ := (ih _ _ _ h3 : ∃ s', RChain P q s1 L s' ∧ Run P D G k ⟨s'.env, s'.heap, s1.nx + 8192⟩)
            rw [step_nx hst] at g2
            exact ⟨s', .cons hst g1, g2⟩
        | false =>
          have h1 := h.2 rfl
          rw [setG_eq hr.symm] at h1
          cases o with
          | op g d mo =>
            obtain ⟨s', g1, g2⟩ := ih _ _ _ h1
            exact ⟨s', .cons (.skip hr.symm) g1, g2⟩
          | store g agg sz x v =>
            obtain ⟨s', g1, g2⟩ := ih _ _ _ h1
            exact ⟨s', .cons (.skipS hr.symm) g1, g2⟩
          | call g d f as =>
            obtain ⟨s', g1, g2⟩ := ih _ _ _ h1
            exact ⟨s', .cons (.skipC hr.symm) g1, g2⟩
    | put d r q L =>
      intro x H' hr
      subst hr
      simp only [Ex] at h
      exact ih _ _ _ h
    | sto r q L =>
      intro x H' hr
      subst hr
      simp only [Ex] at h
      exact ih _ _ _ h

theorem Ex.run (hl : D.rs.length ≤ 4) {m : Nat} {k : List MI} {s : St} (h : Ex P D G m .ctl k s) : Run P D G k s := Ex.says hl m .ctl k s h

end sound

/-! ### The reckoning, as equations -/
section eqs
variable {P : Program} {D : Fd} {G : Gl} {m : Nat} {k : List MI} {E : Env} {H : Heap} {nx : Nat} {q : Bool} {L : List MO} {s : St}

theorem ex_ret : Ex P D G (m + 1) .ctl (.code .ret :: k) s = Ends D G s := Eq.trans rfl rfl
theorem ex_nil : Ex P D G (m + 1) .ctl [] s = Ends D G s := Eq.trans rfl rfl
theorem ex_skip : Ex P D G (m + 1) .ctl (.code .skip :: k) s = Ex P D G m .ctl k s := Eq.trans rfl rfl
theorem ex_seq {a b : MC} : Ex P D G (m + 1) .ctl (.code (.seq a b) :: k) s = Ex P D G m .ctl (.code a :: .code b :: k) s := Eq.trans rfl rfl
theorem ex_cond {c : Opd} {a b : MC} : Ex P D G (m + 1) .ctl (.code (.cond c a b) :: k) ⟨E, H, nx⟩ = Ex P D G m (.cnd (ev E c) a b) k ⟨E, H, nx⟩ := Eq.trans rfl rfl
theorem ex_cnd {t : Bool} {a b : MC} : Ex P D G (m + 1) (.cnd (some (.v (.w (.bool t)))) a b) k s = ((t = true → Ex P D G m .ctl (.code a :: k) s) ∧ (t = false → Ex P D G m .ctl (.code b :: k) s)) := Eq.trans rfl rfl
theorem ex_block {id : Nat} {b : MC} : Ex P D G (m + 1) .ctl (.code (.block id b) :: k) s = Ex P D G m .ctl (.code b :: .inBlock id :: k) s := Eq.trans rfl rfl
theorem ex_inBlock {id : Nat} : Ex P D G (m + 1) .ctl (.inBlock id :: k) s = Ex P D G m .ctl k s := Eq.trans rfl rfl
theorem ex_exit {id : Nat} : Ex P D G (m + 1) .ctl (.code (.exit id) :: k) s = match mexit id k with | some k' => Ex P D G m .ctl k' s | none => False := Eq.trans rfl rfl
theorem ex_loop {b : MC} : Ex P D G (m + 1) .ctl (.code (.loop b) :: k) s = Run P D G (.code (.loop b) :: k) s := Eq.trans rfl rfl
theorem ex_inLoop {b : MC} : Ex P D G (m + 1) .ctl (.inLoop b :: k) s = Run P D G (.inLoop b :: k) s := Eq.trans rfl rfl
theorem ex_stop : Ex P D G (m + 1) .ctl (.stop :: k) s = Run P D G k s := Eq.trans rfl rfl
theorem ex_reg : Ex P D G (m + 1) .ctl (.code (.reg q L) :: k) s = Ex P D G m (.ops q L) k s := Eq.trans rfl rfl
theorem ex_end : Ex P D G (m + 1) (.ops q []) k ⟨E, H, nx⟩ = Ex P D G m .ctl k ⟨E, H, nx + 8192⟩ := Eq.trans rfl rfl
theorem ex_op {d : Nat} {mo : MOp} : Ex P D G (m + 2) (.ops q (.op none d mo :: L)) k ⟨E, H, nx⟩ = Ex P D G m (.put d (mval (q && !(MO.op none d mo).loud) E H (nx + d) mo) q L) k ⟨E, H, nx⟩ := by
  simp [Ex, guardOf, MO.g, setG]
theorem ex_opG {g : Nat × Bool} {d : Nat} {mo : MOp} : Ex P D G (m + 1) (.ops q (.op (some g) d mo :: L)) k ⟨E, H, nx⟩ = Ex P D G m (.gd (guardOf E (some g)) (.op (some g) d mo) q L) k ⟨E, H, nx⟩ := Eq.trans rfl rfl
theorem ex_gdO {t : Bool} {g : Option (Nat × Bool)} {d : Nat} {mo : MOp} : Ex P D G (m + 1) (.gd (some t) (.op g d mo) q L) k ⟨E, H, nx⟩ =
    ((t = true → Ex P D G m (.put d (mval (q && !(MO.op g d mo).loud) (setG E g true) H (nx + d) mo) q L) k ⟨setG E g true, H, nx⟩) ∧ (t = false → Ex P D G m (.ops q L) k ⟨(d, .tup []) :: setG E g false, H, nx⟩)) := Eq.trans rfl rfl
theorem ex_put {d : Nat} {x : AV} {H' : Heap} : Ex P D G (m + 1) (.put d (some (x, H')) q L) k ⟨E, H, nx⟩ = Ex P D G m (.ops q L) k ⟨(d, x) :: E, H', nx⟩ := Eq.trans rfl rfl
theorem ex_st {agg : Bool} {sz : Nat} {x v : Opd} : Ex P D G (m + 2) (.ops q (.store none agg sz x v :: L)) k ⟨E, H, nx⟩ = Ex P D G m (.sto (mval false E H nx (.stt agg sz x v)) q L) k ⟨E, H, nx⟩ := by
  simp [Ex, guardOf, MO.g, MO.loud, setG]
theorem ex_stG {g : Nat × Bool} {agg : Bool} {sz : Nat} {x v : Opd} : Ex P D G (m + 1) (.ops q (.store (some g) agg sz x v :: L)) k ⟨E, H, nx⟩ = Ex P D G m (.gd (guardOf E (some g)) (.store (some g) agg sz x v) q L) k ⟨E, H, nx⟩ := Eq.trans rfl rfl
theorem ex_gdS {t : Bool} {g : Option (Nat × Bool)} {agg : Bool} {sz : Nat} {x v : Opd} : Ex P D G (m + 1) (.gd (some t) (.store g agg sz x v) q L) k ⟨E, H, nx⟩ =
    ((t = true → Ex P D G m (.sto (mval false (setG E g true) H nx (.stt agg sz x v)) q L) k ⟨setG E g true, H, nx⟩) ∧ (t = false → Ex P D G m (.ops q L) k ⟨setG E g false, H, nx⟩)) := by
  simp only [Ex, MO.loud, Bool.not_true, Bool.and_false]; rfl
theorem ex_sto {x : AV} {H' : Heap} : Ex P D G (m + 1) (.sto (some (x, H')) q L) k ⟨E, H, nx⟩ = Ex P D G m (.ops q L) k ⟨E, H', nx⟩ := Eq.trans rfl rfl
theorem ex_call {d : Nat} {f : Opd} {as : List Opd} : Ex P D G (m + 2) (.ops q (.call none d f as :: L)) k ⟨E, H, nx⟩ = CallG P D G m q L k ⟨E, H, nx⟩ d f as := by
  simp [Ex, guardOf, MO.g, CallG, setG]
theorem ex_callG {g : Nat × Bool} {d : Nat} {f : Opd} {as : List Opd} : Ex P D G (m + 1) (.ops q (.call (some g) d f as :: L)) k ⟨E, H, nx⟩ = Ex P D G m (.gd (guardOf E (some g)) (.call (some g) d f as) q L) k ⟨E, H, nx⟩ := Eq.trans rfl rfl
theorem ex_gdC {t : Bool} {g : Option (Nat × Bool)} {d : Nat} {f : Opd} {as : List Opd} : Ex P D G (m + 1) (.gd (some t) (.call g d f as) q L) k ⟨E, H, nx⟩ =
    ((t = true → CallG P D G m q L k ⟨setG E g true, H, nx⟩ d f as) ∧ (t = false → Ex P D G m (.ops q L) k ⟨(d, .tup []) :: setG E g false, H, nx⟩)) := Eq.trans rfl rfl

/-! tests whose answer is known -/
theorem ex_cndT {a b : MC} : Ex P D G (m + 1) (.cnd (some (.v (.w (.bool true)))) a b) k s = Ex P D G m .ctl (.code a :: k) s := by rw [ex_cnd]; simp
theorem ex_cndF {a b : MC} : Ex P D G (m + 1) (.cnd (some (.v (.w (.bool false)))) a b) k s = Ex P D G m .ctl (.code b :: k) s := by rw [ex_cnd]; simp
theorem ex_gdOT {g : Option (Nat × Bool)} {d : Nat} {mo : MOp} : Ex P D G (m + 1) (.gd (some true) (.op g d mo) q L) k ⟨E, H, nx⟩ = Ex P D G m (.put d (mval (q && !(MO.op g d mo).loud) (setG E g true) H (nx + d) mo) q L) k ⟨setG E g true, H, nx⟩ := by rw [ex_gdO]; simp
theorem ex_gdOF {g : Option (Nat × Bool)} {d : Nat} {mo : MOp} : Ex P D G (m + 1) (.gd (some false) (.op g d mo) q L) k ⟨E, H, nx⟩ = Ex P D G m (.ops q L) k ⟨(d, .tup []) :: setG E g false, H, nx⟩ := by rw [ex_gdO]; simp
theorem ex_gdST {g : Option (Nat × Bool)} {agg : Bool} {sz : Nat} {x v : Opd} : Ex P D G (m + 1) (.gd (some true) (.store g agg sz x v) q L) k ⟨E, H, nx⟩ = Ex P D G m (.sto (mval false (setG E g true) H nx (.stt agg sz x v)) q L) k ⟨setG E g true, H, nx⟩ := by rw [ex_gdS]; simp
theorem ex_gdSF {g : Option (Nat × Bool)} {agg : Bool} {sz : Nat} {x v : Opd} : Ex P D G (m + 1) (.gd (some false) (.store g agg sz x v) q L) k ⟨E, H, nx⟩ = Ex P D G m (.ops q L) k ⟨setG E g false, H, nx⟩ := by rw [ex_gdS]; simp
theorem ex_gdCT {g : Option (Nat × Bool)} {d : Nat} {f : Opd} {as : List Opd} : Ex P D G (m + 1) (.gd (some true) (.call g d f as) q L) k ⟨E, H, nx⟩ = CallG P D G m q L k ⟨setG E g true, H, nx⟩ d f as := by rw [ex_gdC]; simp
theorem ex_gdCF {g : Option (Nat × Bool)} {d : Nat} {f : Opd} {as : List Opd} : Ex P D G (m + 1) (.gd (some false) (.call g d f as) q L) k ⟨E, H, nx⟩ = Ex P D G m (.ops q L) k ⟨(d, .tup []) :: setG E g false, H, nx⟩ := by rw [ex_gdC]; simp

end eqs

/-! ### Calls -/
section calls
variable {P : Program} {D : Fd} {G : Gl} {m : Nat} {k : List MI} {E : Env} {H : Heap} {nx : Nat} {q : Bool} {L : List MO} {d : Nat} {f : Opd} {args : List Opd} {u res : AV} {fid : FuncId} {caps as ys : List AV}

/-- Rows are lent; a flat value comes back. -/
theorem CallG.lent (h1 : ev E f = some u) (h2 : fnOf u = some (fid, caps)) (h3 : evs E args = some as) (h4 : passAs true H [] (as ++ caps) = some ys) (h5 : FOk P fid ys [] res []) (h6 : flatA res = true)
    (h : Ex P D G m (.ops q L) k ⟨(d, res) :: E, H, nx⟩) : CallG P D G m q L k ⟨E, H, nx⟩ d f args :=
  ⟨_, .inl ⟨res, [], CallQ.lent h1 h2 h3 h4 h5 h6, rfl⟩, h⟩

/-- Values are handed over; a value, or new rows, come back. -/
theorem CallG.plain {Hout : Heap} (h1 : ev E f = some u) (h2 : fnOf u = some (fid, caps)) (h3 : evs E args = some as) (h4 : passAs false H [] (as ++ caps) = some ys) (h5 : FOk P fid ys [] res Hout) (h6 : ∀ p ∈ Hout, p.1 < 8 ∧ p.2.sz ≠ 0) (h7 : ∀ k, res.men k → k < 8)
    (h : Ex P D G m (.ops q L) k ⟨(d, backA [] (nx + d) res) :: E, (Hout.map fun p => (bk [] (nx + d) p.1, p.2)) ++ H, nx⟩) : CallG P D G m q L k ⟨E, H, nx⟩ d f args :=
  ⟨_, .inl ⟨_, _, CallQ.plain (s := ⟨E, H, nx⟩) h1 h2 h3 h4 h5 h6 h7, rfl⟩, h⟩

/-- Rows are handed over (ids); the others are written no more. -/
theorem CallG.rows (ids : List Nat) {Hout : Heap} (h1 : ev E f = some u) (h2 : fnOf u = some (fid, caps)) (h3 : evs E args = some as) (h4 : passAs false (frzs ids H (as ++ caps)) ids (as ++ caps) = some ys) (hn : ids.Nodup)
    (hf : ∀ id ∈ ids, ∃ e, find H id = some e ∧ e.sz ≠ 0) (h5 : FOk P fid ys (passH (frzs ids H (as ++ caps)) 0 ids) res Hout) (h6 : ∀ p ∈ Hout, p.1 < ids.length + 8 ∧ p.2.sz ≠ 0) (h7 : ∀ k, res.men k → k < ids.length + 8)
    (h : Ex P D G m (.ops false L) k ⟨(d, backA ids (nx + d) res) :: E, outH (frzs ids H (as ++ caps)) ids (nx + d) Hout, nx⟩) : CallG P D G m false L k ⟨E, H, nx⟩ d f args :=
  ⟨_, .inr ⟨rfl, CallOk.rows (s := ⟨E, H, nx⟩) h1 h2 h3 h4 hn hf h5 h6 h7 fun _ => rfl⟩, h⟩

/-- Rows are handed over and are behind the call as they were. -/
theorem CallG.same (ids : List Nat) (h1 : ev E f = some u) (h2 : fnOf u = some (fid, caps)) (h3 : evs E args = some as) (h4 : passAs false H ids (as ++ caps) = some ys) (hn : ids.Nodup) (hf : ∀ id ∈ ids, ∃ e, find H id = some e ∧ e.sz ≠ 0)
    (h5 : FOk P fid ys (passH H 0 ids) res (passH H 0 ids)) (h7 : ∀ k, res.men k → k < ids.length) (h8 : ∀ id ∈ ids, Named' E (args ++ [f]) id)
    (h : Ex P D G m (.ops q L) k ⟨(d, backA ids (nx + d) res) :: E, H, nx⟩) : CallG P D G m q L k ⟨E, H, nx⟩ d f args :=
  ⟨_, .inl ⟨_, _, CallQ.same (s := ⟨E, H, nx⟩) h1 h2 h3 h4 hn hf h5 h7 h8, rfl⟩, h⟩

end calls
end Go.AM

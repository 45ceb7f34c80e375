/- Running through the code: the rules. -/
import Derived.Test.YtphjjlhpepmofaaAM21
set_option linter.all false
namespace Go.AM
open Go

section
variable (P : Program) (ows : List Nat) (n : Nat)
def cC : Code → Option MC
  | .skip => some .skip
  | .region _ ops draw => match mapO (cO P ows n ops) ops.toList with
    | some L => if distinctB L = true ∧ (draw = true → drawB ops L = true ∧ P.follows .mixedOrders = true) then some (.reg draw L) else none
    | none => none
  | .seq a b => match cC a, cC b with
    | some a, some b => some (.seq a b)
    | _, _ => none
  | .cond c a b => match opd P 0 c, cC a, cC b with
    | some c, some a, some b => some (.cond c a b)
    | _, _, _ => none
  | .block id b => (cC b).map (.block id)
  | .loop b => (cC b).map .loop
  | .exit id => some (.exit id)
  | .ret => some .ret
  | _ => none
end

inductive MI where
  | code (c : MC)
  | inBlock (id : Nat)
  | inLoop (c : MC)
  | stop

def mexit (id : Nat) : List MI → Option (List MI)
  | .inBlock j :: k => if j = id then some k else mexit id k
  | .stop :: k => (mexit id k).map (MI.stop :: ·)
  | .code _ :: k => mexit id k
  | .inLoop _ :: k => mexit id k
  | [] => none

section
variable (P : Program) (ows : List Nat) (n : Nat)
inductive Mt : MI → Item → Prop
  | code {c : Code} {m : MC} : cC P ows n c = some m → Mt (.code m) (.code c)
  | inBlock {id : Nat} : Mt (.inBlock id) (.inBlock id)
  | inLoop {c : Code} {m : MC} : cC P ows n c = some m → Mt (.inLoop m) (.inLoop c)
inductive Mts : List MI → List Item → Prop
  | nil : Mts [] []
  | cons {x : MI} {y : Item} {k : List MI} {l : List Item} : Mt P ows n x y → Mts k l → Mts (x :: k) (y :: l)
  | stop {k : List MI} {l : List Item} : Mts k l → Mts (.stop :: k) l
end

/-- A function: its number, the cuts that take a row over, how many slots, which hold the results. -/
structure Fd where
  f : FuncId
  ows : List Nat
  n : Nat
  rs : List Nat

/-- What is to come out: the result, the rows; how many rows were handed over. -/
structure Gl where
  nin : Nat
  res : AV
  H' : Heap

def Done (P : Program) (C : Cx) (G : Gl) (v : Value) (W' : World) : Prop :=
  ∃ hdr' ow', Mem C W' G.H' hdr' ow' ∧ RepA W' (OK C W' G.H' ow') hdr' G.H' G.res v ∧ ∀ k, k < G.nin → ∀ e', find G.H' k = some e' → hdr' k = C.hdr0 k

def FnIs (P : Program) (D : Fd) (fn : Func) : Prop := P.funcs[D.f]? = some fn ∧ fn.results = (D.rs.map ResultVar.tmp).toArray

/-- From the state s on, with the code k ahead, the function comes to G. -/
def Run (P : Program) (D : Fd) (G : Gl) (k : List MI) (s : St) : Prop :=
  ∀ (C : Cx) (fn : Func) (a : Act) (W : World) (hdr : Nat → Value) (ow : Nat → Option Nat) (items : List Item), C.nin = G.nin → FnIs P D fn → RelAt C D.n (· < s.nx) s a W hdr ow → Mts P D.ows D.n k items →
    ∀ (b : Frame) (cs : List Frame), b.fn = D.f → b.kind = .normal → ∃ v W' fr, Done P C G v W' ∧ Steps P (lone (b.at a items) cs W) (lone fr cs W') ∧ fr.fn = D.f ∧ fr.leaving P W' (.returned v)

section
variable {P : Program} {D : Fd} {G : Gl} {k : List MI} {s : St}

theorem Run.step {k' : List MI} (h : Run P D G k' s)
    (hs : ∀ (a : Act) (W : World) (items : List Item) (b : Frame) (cs : List Frame) (C : Cx) (hdr : Nat → Value) (ow : Nat → Option Nat), RelAt C D.n (· < s.nx) s a W hdr ow → Mts P D.ows D.n k items →
      ∃ items', Mts P D.ows D.n k' items' ∧ Steps P (lone (b.at a items) cs W) (lone (b.at a items') cs W)) : Run P D G k s := by
  intro C fn a W hdr ow items hC hfn r hm b cs hb hbk
  obtain ⟨items', h1, h2⟩ := hs a W items b cs C hdr ow r hm
  obtain ⟨v, W', fr, q1, q2, q3⟩ := h C fn a W hdr ow items' hC hfn r h1 b cs hb hbk
  exact ⟨v, W', fr, q1, h2.trans q2, q3⟩

theorem Run.skip (h : Run P D G k s) : Run P D G (.code .skip :: k) s := h.step fun a W items b cs C hdr ow r hm => by
  cases hm with
  | cons hx hk =>
    cases hx with
    | code hc =>
      rename_i l c
      cases c <;> simp only [cC] at hc <;> try (first | (cases hc; done) | (repeat (first | (split at hc) | cases hc)))
      · exact ⟨_, hk, .one step_skip⟩
      · obtain ⟨_, _, hc⟩ := Option.map_eq_some_iff.1 hc; cases hc
      · obtain ⟨_, _, hc⟩ := Option.map_eq_some_iff.1 hc; cases hc

/-- What code a reading is of. -/
theorem cC_inv {P : Program} {ows : List Nat} {n : Nat} {c : Code} {m : MC} (h : cC P ows n c = some m) :
    match m with
    | .skip => c = .skip
    | .reg q L => ∃ id ops, c = .region id ops q ∧ mapO (cO P ows n ops) ops.toList = some L ∧ distinctB L = true ∧ (q = true → drawB ops L = true ∧ P.follows .mixedOrders = true)
    | .seq a b => ∃ a' b', c = .seq a' b' ∧ cC P ows n a' = some a ∧ cC P ows n b' = some b
    | .cond x a b => ∃ x' a' b', c = .cond x' a' b' ∧ opd P 0 x' = some x ∧ cC P ows n a' = some a ∧ cC P ows n b' = some b
    | .block id b => ∃ b', c = .block id b' ∧ cC P ows n b' = some b
    | .loop b => ∃ b', c = .loop b' ∧ cC P ows n b' = some b
    | .exit id => c = .exit id
    | .ret => c = .ret := by
  cases c with
  | skip => simp only [cC] at h; cases h; rfl
  | region id ops draw =>
    simp only [cC] at h
    split at h
    · rename_i L hL
      split at h
      · rename_i hh; cases h; exact ⟨id, ops, rfl, hL, hh.1, hh.2⟩
      · cases h
    · cases h
  | seq a b =>
    simp only [cC] at h
    split at h
    · rename_i x y h1 h2; cases h; exact ⟨a, b, rfl, h1, h2⟩
    · cases h
  | cond c a b =>
    simp only [cC] at h
    split at h
    · rename_i x y z h1 h2 h3; cases h; exact ⟨c, a, b, rfl, h1, h2, h3⟩
    · cases h
  | block id b => simp only [cC] at h; obtain ⟨x, h1, rfl⟩ := Option.map_eq_some_iff.1 h; exact ⟨b, rfl, h1⟩
  | loop b => simp only [cC] at h; obtain ⟨x, h1, rfl⟩ := Option.map_eq_some_iff.1 h; exact ⟨b, rfl, h1⟩
  | exit id => simp only [cC] at h; cases h; rfl
  | ret => simp only [cC] at h; cases h; rfl
  | _ => simp [cC] at h

theorem Run.seq {x y : MC} (h : Run P D G (.code x :: .code y :: k) s) : Run P D G (.code (.seq x y) :: k) s := h.step fun a W items b cs C hdr ow r hm => by
  cases hm with
  | cons hx hk => cases hx with
    | code hc =>
      obtain ⟨a', b', rfl, h1, h2⟩ := cC_inv hc
      exact ⟨_, .cons (.code h1) (.cons (.code h2) hk), .one step_seq⟩

theorem Run.cond {c : Opd} {x y : MC} {t : Bool} (hc : ev s.env c = some (.v (.w (.bool t)))) (h1 : t = true → Run P D G (.code x :: k) s) (h2 : t = false → Run P D G (.code y :: k) s) : Run P D G (.code (.cond c x y) :: k) s := by
  have key : Run P D G (.code (if t = true then x else y) :: k) s := by cases t; exact h2 rfl; exact h1 rfl
  refine key.step fun a W items b cs C hdr ow r hm => ?_
  cases hm with
  | cons hx hk => cases hx with
    | code hcc =>
      obtain ⟨x', a', b', rfl, g1, g2, g3⟩ := cC_inv hcc
      have hv := (opd_ok r g1 hc).1
      simp only [RepA] at hv
      refine ⟨_, .cons (.code (c := if t = true then a' else b') ?_) hk, .one ?_⟩
      · cases t; exact g3; exact g2
      · exact step_cond hv.wInv.1

theorem Run.block {id : Nat} {x : MC} (h : Run P D G (.code x :: .inBlock id :: k) s) : Run P D G (.code (.block id x) :: k) s := h.step fun a W items b cs C hdr ow r hm => by
  cases hm with
  | cons hx hk => cases hx with
    | code hc =>
      obtain ⟨b', rfl, h1⟩ := cC_inv hc
      exact ⟨_, .cons (.code h1) (.cons .inBlock hk), .one step_block⟩

theorem Run.inBlock {id : Nat} (h : Run P D G k s) : Run P D G (.inBlock id :: k) s := h.step fun a W items b cs C hdr ow r hm => by
  cases hm with
  | cons hx hk => cases hx with
    | inBlock => exact ⟨_, hk, .one step_inBlock⟩

theorem Run.loop {x : MC} (h : Run P D G (.code x :: .inLoop x :: k) s) : Run P D G (.code (.loop x) :: k) s := h.step fun a W items b cs C hdr ow r hm => by
  cases hm with
  | cons hx hk => cases hx with
    | code hc =>
      obtain ⟨b', rfl, h1⟩ := cC_inv hc
      exact ⟨_, .cons (.code h1) (.cons (.inLoop h1) hk), .one step_loop⟩

theorem Run.inLoop {x : MC} (h : Run P D G (.code x :: .inLoop x :: k) s) : Run P D G (.inLoop x :: k) s := h.step fun a W items b cs C hdr ow r hm => by
  cases hm with
  | cons hx hk => cases hx with
    | inLoop hc => exact ⟨_, .cons (.code hc) (.cons (.inLoop hc) hk), .one step_inLoop⟩

theorem mexit_ok {P : Program} {ows : List Nat} {n id : Nat} : ∀ {k k' : List MI} {items : List Item}, mexit id k = some k' → Mts P ows n k items → ∃ items', exitTo id items = some items' ∧ Mts P ows n k' items'
  | [], _, _, h, _ => by simp [mexit] at h
  | x :: k, k', _, h, .cons hx hk => by
    cases hx with
    | code hc => simp only [mexit] at h; obtain ⟨i, h1, h2⟩ := mexit_ok h hk; exact ⟨i, by simpa [exitTo] using h1, h2⟩
    | inLoop hc => simp only [mexit] at h; obtain ⟨i, h1, h2⟩ := mexit_ok h hk; exact ⟨i, by simpa [exitTo] using h1, h2⟩
    | inBlock =>
      simp only [mexit] at h
      split at h
      · rename_i hj; cases h; exact ⟨_, by simp [exitTo, hj], hk⟩
      · rename_i hj
        obtain ⟨i, h1, h2⟩ := mexit_ok h hk
        exact ⟨i, by simp [exitTo, hj, h1], h2⟩
  | _, k', _, h, .stop hk => by
    simp only [mexit] at h
    obtain ⟨k'', h3, rfl⟩ := Option.map_eq_some_iff.1 h
    obtain ⟨i, h1, h2⟩ := mexit_ok h3 hk
    exact ⟨i, h1, .stop h2⟩

theorem Run.stop (h : Run P D G k s) : Run P D G (.stop :: k) s := by
  intro C fn a W hdr ow items hC hfn r hm b cs hb hbk
  cases hm with
  | cons hx _ => cases hx
  | stop hk => exact h C fn a W hdr ow items hC hfn r hk b cs hb hbk

theorem Run.unstop (h : Run P D G (.stop :: k) s) : Run P D G k s := by
  intro C fn a W hdr ow items hC hfn r hm b cs hb hbk
  exact h C fn a W hdr ow items hC hfn r (.stop hm) b cs hb hbk

theorem Run.exit {id : Nat} {k' : List MI} (he : mexit id k = some k') (h : Run P D G k' s) : Run P D G (.code (.exit id) :: k) s := h.step fun a W items b cs C hdr ow r hm => by
  cases hm with
  | cons hx hk => cases hx with
    | code hc =>
      have hc' := cC_inv hc
      simp only at hc'
      subst hc'
      obtain ⟨i, h1, h2⟩ := mexit_ok he hk
      exact ⟨i, h2, .one (step_exit h1)⟩

theorem Run.reg {q : Bool} {L : List MO} {s' : St} (hch : RChain P q s L s') (h : Run P D G k ⟨s'.env, s'.heap, s.nx + 8192⟩) : Run P D G (.code (.reg q L) :: k) s := by
  intro C fn a W hdr ow items hC hfn r hm b cs hb hbk
  cases hm with
  | cons hx hk => cases hx with
    | code hc =>
      obtain ⟨rid, ops, rfl, h1, h2, h3⟩ := cC_inv hc
      rename_i l
      have hw := reg_ok (rid := rid) (Q := fun e a' W' => e = .normal ∧ ∃ hdr' ow', RelAt C D.n (· < s.nx + 8192) ⟨s'.env, s'.heap, s.nx + 8192⟩ a' W' hdr' ow') h1 h2 h3 hch r (fun a' W' hdr' ow' r' => ⟨rfl, hdr', ow', r'⟩)
      obtain ⟨e, a', W', ⟨rfl, hdr', ow', r'⟩, harr⟩ := hw b l cs
      obtain ⟨v, W'', fr, q1, q2, q3⟩ := h C fn a' W' hdr' ow' l hC hfn r' hk b cs hb hbk
      exact ⟨v, W'', fr, q1, Go.Steps.trans harr q2, q3⟩

/-- The value that comes out of slots. -/
def retA (E : Env) : List Nat → Option AV
  | [t] => find E t
  | ts => (evs E (ts.map Opd.t)).map .tup

def passR (H : Heap) (ids : List Nat) : AV → Option AV
  | .tup l => match passAs true H ids l with
    | some l => some (.tup l)
    | none => none
  | x => passA true H ids x

/-- The function may end in the state s. -/
def Ends (D : Fd) (G : Gl) (s : St) : Prop :=
  ∃ ids x, ids.Nodup ∧ retA s.env D.rs = some x ∧ passR s.heap ids x = some G.res ∧ passH s.heap 0 ids = G.H' ∧ (∀ p ∈ G.H', p.2.sz ≠ 0) ∧ ∀ k, k < G.nin → (find G.H' k).isSome = true → ids[k]? = some k

theorem evs_tmps {C : Cx} {n : Nat} {F : Nat → Prop} {s : St} {a : Act} {W : World} {hdr : Nat → Value} {ow : Nat → Option Nat} (r : RelAt C n F s a W hdr ow) : ∀ (ts : List Nat) (l : List AV), evs s.env (ts.map Opd.t) = some l →
    RepAs W (OK C W s.heap ow) hdr s.heap l (ts.map fun t => a.tmps.getD t undef)
  | [], l, h => by simp [evs] at h; subst h; simp [RepAs]
  | t :: ts, l, h => by
    simp only [List.map_cons, evs] at h
    split at h
    · rename_i x xs h1 h2
      cases h
      simp only [List.map_cons, RepAs]
      exact ⟨r.env t x h1, evs_tmps r ts xs h2⟩
    · cases h

def retV (tmps : Array Value) : List Nat → Value
  | [t] => tmps.getD t undef
  | ts => .tuple (ts.map fun t => tmps.getD t undef).toArray

theorem run_results {fn : Func} {ts : List Nat} (h : fn.results = (ts.map ResultVar.tmp).toArray) (hl : ts.length ≤ 4) (tmps : Array Value) (W : World) :
    (results fn tmps).run P W = .ok (retV tmps ts) W := by
  match ts, h, hl with
  | [], h, _ => simp [results, h, retV]
  | [t], h, _ => simp [results, h, retV]
  | [t, u], h, _ => simp [results, h, retV]
  | [t, u, v], h, _ => simp [results, h, retV]
  | [t, u, v, x], h, _ => simp [results, h, retV]
  | _ :: _ :: _ :: _ :: _ :: _, _, hl => simp at hl

theorem fin_ok {C : Cx} {a : Act} {W : World} {hdr : Nat → Value} {ow : Nat → Option Nat} (hC : C.nin = G.nin) (r : RelAt C D.n (· < s.nx) s a W hdr ow) (h : Ends D G s) : Done P C G (retV a.tmps D.rs) W := by
  obtain ⟨ids, x, hn, hx, hp, hH, hsz, hnin⟩ := h
  have hfound : ∀ k e, find G.H' k = some e → ∃ id, ids[k]? = some id ∧ find s.heap id = some e := fun k e hk => by rw [← hH] at hk; exact find_in hk
  have hown : ∀ j, Own G.H' (owI ow ids) j → ∃ id e, id ∈ ids ∧ find s.heap id = some e ∧ ow id = some j := by
    rintro j ⟨k, e, hk, ho⟩
    obtain ⟨id, h1, h2⟩ := hfound k e hk
    simp only [owI, h1] at ho
    exact ⟨id, e, List.mem_of_getElem? h1, h2, ho⟩
  have hok : ∀ j, OK C W s.heap ow j → OK C W G.H' (owI ow ids) j := by
    rintro j ⟨h1, h2⟩
    refine ⟨h1, fun h => ?_⟩
    obtain ⟨id, e, _, q1, q2⟩ := hown j h
    exact h2 ⟨id, e, q1, q2⟩
  have hokb : true = true → ∀ id e j, id ∉ ids → find s.heap id = some e → ow id = some j → OK C W G.H' (owI ow ids) j := by
    intro _ id e j hni he hj
    have hlt := r.mem.lt id e j he hj
    refine ⟨⟨.inr hlt.2, hlt.1⟩, fun h => ?_⟩
    obtain ⟨id', e', q0, q1, q2⟩ := hown j h
    have := r.mem.inj id id' e e' j he q1 hj q2
    subst this; exact hni q0
  refine ⟨hdrI hdr ids, owI ow ids, ⟨?_, ?_, ?_, r.mem.size, r.mem.frame, r.mem.os, r.mem.tape, r.mem.output⟩, ?_, ?_⟩
  · intro k e he
    obtain ⟨id, h1, h2⟩ := hfound k e he
    simp only [hdrI, owI, h1]
    exact (r.mem.ent id e h2).mono (fun j hj => ⟨hok j hj, rfl⟩) (fun _ _ => rfl) (fun c hc => by rw [Ent.ref_none (hsz _ (find_mem he))] at hc; cases hc)
  · intro k k' e e' b hk hk' hb hb'
    obtain ⟨id, h1, h2⟩ := hfound k e hk
    obtain ⟨id', h1', h2'⟩ := hfound k' e' hk'
    simp only [owI, h1] at hb
    simp only [owI, h1'] at hb'
    have := r.mem.inj id id' e e' b h2 h2' hb hb'
    subst this
    obtain ⟨g1, g2⟩ := List.getElem?_eq_some_iff.1 h1
    obtain ⟨g3, g4⟩ := List.getElem?_eq_some_iff.1 h1'
    exact (List.getElem_inj hn).1 (g2.trans g4.symm)
  · intro k e b hk hb
    obtain ⟨id, h1, h2⟩ := hfound k e hk
    simp only [owI, h1] at hb
    exact r.mem.lt id e b h2 hb
  · have hret : RepA W (OK C W s.heap ow) hdr s.heap x (retV a.tmps D.rs) := by
      unfold retA at hx
      unfold retV
      split at hx
      · exact r.env _ _ hx
      · rename_i ts hne
        obtain ⟨l, hl, rfl⟩ := Option.map_eq_some_iff.1 hx
        have := evs_tmps r _ l hl
        simp only [RepA]; exact ⟨_, rfl, this⟩
    have hpass := fun (y : AV) (v : Value) (z : AV) (hz : passA true s.heap ids y = some z) (hv : RepA W (OK C W s.heap ow) hdr s.heap y v) => passA_ok (ids := ids) r hok hokb y z v hz hv
    rw [hH] at hpass
    unfold passR at hp
    split at hp
    · rename_i l
      split at hp
      · rename_i l' hl'
        simp only [Option.some.injEq] at hp
        rw [← hp]
        simp only [RepA] at hret ⊢
        obtain ⟨vs, h1, h2⟩ := hret
        have := passAs_ok (ids := ids) r hok hokb l l' vs hl' h2
        rw [hH] at this
        exact ⟨vs, h1, this⟩
      · cases hp
    · exact hpass _ _ _ hp hret
  · intro k hk e' he'
    have h1 := hnin k hk (by rw [he']; rfl)
    obtain ⟨id, h2, h3⟩ := hfound k e' he'
    rw [h1] at h2; cases h2
    simp only [hdrI, h1]
    exact r.gh k (by rw [hC]; exact hk) e' h3

theorem Run.ret (hl : D.rs.length ≤ 4) (h : Ends D G s) : Run P D G (.code .ret :: k) s := by
  intro C fn a W hdr ow items hC hfn r hm b cs hb hbk
  cases hm with
  | cons hx hk => cases hx with
    | code hc =>
      have hc' := cC_inv hc
      simp only at hc'
      subst hc'
      refine ⟨_, W, _, fin_ok hC r h, .one step_ret, hb, rfl, r.defers, hbk, fn, ?_, run_results hfn.2 hl a.tmps W⟩
      have := hfn.1
      rw [← hb] at this; exact this

theorem Run.done (hl : D.rs.length ≤ 4) (h : Ends D G s) : Run P D G [] s := by
  intro C fn a W hdr ow items hC hfn r hm b cs hb hbk
  cases hm
  refine ⟨_, W, _, fin_ok hC r h, .one step_end, hb, rfl, r.defers, hbk, fn, ?_, run_results hfn.2 hl a.tmps W⟩
  have := hfn.1
  rw [← hb] at this; exact this

/-- The slots at the beginning. -/
def envOf : Nat → List AV → Env
  | _, [] => []
  | i, x :: l => (i, x) :: envOf (i + 1) l

theorem find_envOf : ∀ (l : List AV) (i t : Nat) (x : AV), find (envOf i l) t = some x → i ≤ t ∧ l[t - i]? = some x
  | [], i, t, x, h => by simp [envOf, find] at h
  | y :: l, i, t, x, h => by
    simp only [envOf, find_cons] at h
    split at h
    · rename_i ht; subst ht; cases h; simp
    · rename_i ht
      obtain ⟨h1, h2⟩ := find_envOf l (i + 1) t x h
      refine ⟨by omega, ?_⟩
      rw [show t - i = (t - (i + 1)) + 1 by omega, List.getElem?_cons_succ]; exact h2

theorem RepAs.len {W : World} {ok : Nat → Prop} {hdr : Nat → Value} {H : Heap} : ∀ {l : List AV} {vs : List Value}, RepAs W ok hdr H l vs → vs.length = l.length
  | [], [], _ => rfl
  | [], _ :: _, h => by simp [RepAs] at h
  | _ :: _, [], h => by simp [RepAs] at h
  | _ :: l, _ :: vs, h => by simp only [RepAs] at h; simp [RepAs.len h.2]

theorem mens_mem : ∀ {l : List AV} {x : AV} {k : Nat}, x ∈ l → x.men k → AV.mens l k
  | y :: l, x, k, h, hk => by
    rcases List.mem_cons.1 h with rfl | h
    · simp [AV.mens, hk]
    · simp [AV.mens, mens_mem h hk]

/-- A function comes to what its code runs to. -/
theorem FOk.intro {f : FuncId} {fn : Func} {c : Code} {m : MC} {args : List AV} {H : Heap} (hfn : P.funcs[f]? = some fn) (hcall : ∀ (as : Array Value) (W : World), (callFunc f as).run P W = .ok (.enter f as) W)
    (hb : fn.body = some c) (ows rs : List Nat) (hr : fn.results = (rs.map ResultVar.tmp).toArray) (hc : cC P ows fn.ntmps c = some m) (hargs : args.length ≤ fn.ntmps) (nin : Nat) (hnin : nin ≤ 1024)
    (hH : ∀ p ∈ H, p.1 < nin ∧ p.2.sz ≠ 0) (hmen : ∀ k, AV.mens args k → k < 1024) {res : AV} {H' : Heap} (hsz : ∀ k e e', find H k = some e → find H' k = some e' → e'.sz = e.sz)
    (h : Run P ⟨f, ows, fn.ntmps, rs⟩ ⟨nin, res, H'⟩ [.code m] ⟨envOf 0 args, H, 1024⟩) : FOk P f args H res H' := by
  refine ⟨hcall, ?_⟩
  intro W ok0 vals hdr ow hmem hrep cs
  have hlen := hrep.len
  let C : Cx := ⟨W, ok0, Own H ow, nin, hdr⟩
  let a : Act := { tmps := vals.toArray ++ Array.replicate (fn.ntmps - vals.toArray.size) undef, defers := [] }
  have hslot : ∀ (t : Nat) (x : AV), args[t]? = some x → ∃ v, vals[t]? = some v ∧ RepA W (OK C W H ow) hdr H x v := fun t x hx => RepAs.get hrep hx
  have r0 : RelAt C fn.ntmps (· < 1024) ⟨envOf 0 args, H, 1024⟩ a W hdr ow := by
    refine ⟨⟨hmem.ent, hmem.inj, hmem.lt, hmem.size, hmem.frame, hmem.os, hmem.tape, hmem.output⟩, rfl, ?_, ?_, ?_, ?_, ?_, ?_, ?_⟩
    · simp only [a, Array.size_append, List.size_toArray, Array.size_replicate]; omega
    · intro t x hx
      obtain ⟨_, h1⟩ := find_envOf args 0 t x hx
      rw [Nat.sub_zero] at h1
      obtain ⟨v, hv, hrx⟩ := hslot t x h1
      have ht : t < vals.length := (List.getElem?_eq_some_iff.1 hv).1
      have : a.tmps.getD t undef = v := by
        simp only [a, Array.getD_eq_getD_getElem?]
        rw [Array.getElem?_append_left (by simpa using ht)]
        simp [hv]
      rw [this]; exact hrx
    · intro t x hx k hk
      obtain ⟨_, h1⟩ := find_envOf args 0 t x hx
      exact hmen k (mens_mem (List.mem_of_getElem? h1) hk)
    · intro id e he
      have := (hH _ (find_mem he)).1
      simp only at this
      omega
    · intro k hk; show k < 1024; have : k < nin := hk; omega
    · intro k _ e _; rfl
    · intro id e c he hc; rw [Ent.ref_none (hH _ (find_mem he)).2] at hc; cases hc
  let b : Frame := { (default : Frame) with fn := f, kind := .normal }
  have henter : Frame.enter P f vals.toArray .normal = b.at a [.code c] := by
    simp [Frame.enter, Frame.at, hfn, hb, b, a]
  obtain ⟨v, W', fr, ⟨hdr', ow', q1, q2, q3⟩, q4, q5, q6⟩ := h C fn a W hdr ow [.code c] rfl ⟨hfn, hr⟩ r0 (.cons (.code hc) .nil) b cs rfl rfl
  rw [← henter] at q4
  refine ⟨.returned v, W', fr, ⟨v, hdr', ow', rfl, ⟨q1.ent, q1.inj, q1.lt, q1.size, q1.frame, q1.os, q1.tape, q1.output⟩, q2, ?_⟩, q4, q5, q6⟩
  intro k e e' hk hk'
  have hkn := hH _ (find_mem hk)
  exact ⟨q3 k hkn.1 e' hk', hsz k e e' hk hk'⟩

end
end Go.AM

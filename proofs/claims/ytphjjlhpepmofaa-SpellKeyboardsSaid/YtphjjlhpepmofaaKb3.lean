/- Plain laws. -/
import Derived.Test.YtphjjlhpepmofaaKb2
set_option linter.all false
set_option maxHeartbeats 2000000
namespace Go.Proofs
open Go Go.AM
/-! The pairs of a keyboard's symbols. -/
def oneP (a b : Option Bs) : List PairT := match a, b with | some u, some y => [pairK u y] | _, _ => []
def winT (U l : List Bs) (k t : Nat) : List PairT := if 1 ≤ k + t then oneP U[k + t - 1]? l[k]? else []
def winS (U l : List Bs) (k : Nat) : List PairT := (List.range 3).flatMap (winT U l k)
def horR (l : List Bs) (k : Nat) : List PairT := oneP l[k]? l[k + 1]?
def rowS (U l : List Bs) : List PairT := (List.range l.length).flatMap fun k => winT l l k 0 ++ winS U l k
def rowR (l D : List Bs) : List PairT := (List.range l.length).flatMap fun k => horR l k ++ winS D l k
def rowAt (rows : List (List Bs)) (i : Nat) : List Bs := rows[i]?.getD []
def preR (rows : List (List Bs)) (i : Nat) : List Bs := if i = 0 then [] else rowAt rows (i - 1)
def pairsS (rows : List (List Bs)) : List PairT := (List.range rows.length).flatMap fun i => rowS (preR rows i) (rowAt rows i)
def pairsR (rows : List (List Bs)) : List PairT := (List.range rows.length).flatMap fun i => rowR (rowAt rows i) (rowAt rows (i + 1))

theorem pairK_symm (a b : Bs) : pairK a b = pairK b a := by
  unfold pairK loS hiS
  cases h1 : ltB a b
  · cases h2 : ltB b a
    · have := ltB_total h1 h2; subst this; simp
    · have := ltB_ne h2; simp [this, Ne.symm this]
  · have h2 := ltB_asymm h1
    have := ltB_ne h1
    simp [h2, this, Ne.symm this]
theorem oneP_symm (a b : Option Bs) : oneP a b = oneP b a := by
  cases a <;> cases b <;> simp [oneP, pairK_symm]
abbrev zipP (A B : List Bs) : List PairT := List.zipWith pairK A B
theorem zipP_symm : ∀ A B : List Bs, zipP A B = zipP B A
  | [], [] => rfl
  | [], _ :: _ => rfl
  | _ :: _, [] => rfl
  | a :: A, b :: B => by simp only [zipP, List.zipWith_cons_cons]; rw [pairK_symm]; exact congrArg _ (zipP_symm A B)
theorem range_0 (n : Nat) (f : Nat → List PairT) : (List.range (n + 1)).flatMap f = f 0 ++ (List.range n).flatMap fun k => f (k + 1) := by
  rw [List.range_succ_eq_map, List.flatMap_cons, List.flatMap_map]
theorem zipR : ∀ (U l : List Bs) (n : Nat), l.length ≤ n → ((List.range n).flatMap fun k => oneP U[k]? l[k]?) = zipP U l
  | U, l, 0, h => by
    have : l = [] := List.length_eq_zero_iff.1 (by omega)
    subst this; cases U <;> rfl
  | U, l, n + 1, h => by
    rw [range_0]
    cases U with
    | nil => simp [oneP]
    | cons u U =>
      cases l with
      | nil =>
        have : ∀ (m : Nat), ((List.range m).flatMap fun k => oneP (u :: U)[k + 1]? ([] : List Bs)[k + 1]?) = [] := fun m => by
          simp [oneP]
        simp [oneP]
      | cons y l =>
        have ih := zipR U l n (by simp at h; omega)
        simp only [List.getElem?_cons_succ, ih]
        simp [oneP]
theorem perm_fm {f g : Nat → List PairT} : ∀ (l : List Nat), (∀ x ∈ l, (f x).Perm (g x)) → (l.flatMap f).Perm (l.flatMap g)
  | [], _ => .nil
  | x :: l, h => by
    rw [List.flatMap_cons, List.flatMap_cons]
    exact (h x (by simp)).append (perm_fm l fun y hy => h y (by simp [hy]))
theorem perm_ap {f g : Nat → List PairT} : ∀ (l : List Nat), (l.flatMap fun x => f x ++ g x).Perm (l.flatMap f ++ l.flatMap g)
  | [] => .nil
  | x :: l => by
    simp only [List.flatMap_cons]
    have ih := perm_ap (f := f) (g := g) l
    refine (ih.append_left (f x ++ g x)).trans ?_
    simp only [List.append_assoc]
    refine List.Perm.append_left (f x) ?_
    exact List.perm_append_comm_assoc ..
theorem winT_0 (U l : List Bs) : ((List.range l.length).flatMap fun k => winT U l k 0) = zipP U (l.drop 1) := by
  cases l with
  | nil => cases U <;> rfl
  | cons y l =>
    rw [List.length_cons, range_0]
    have : (fun k => winT U (y :: l) (k + 1) 0) = fun k => oneP U[k]? l[k]? := by funext k; simp [winT]
    rw [this, zipR U l l.length (Nat.le_refl _)]
    simp [winT]
theorem winT_1 (U l : List Bs) : ((List.range l.length).flatMap fun k => winT U l k 1) = zipP U l := by
  have : (fun k => winT U l k 1) = fun k => oneP U[k]? l[k]? := by funext k; simp [winT]
  rw [this, zipR U l l.length (Nat.le_refl _)]
theorem winT_2 (U l : List Bs) : ((List.range l.length).flatMap fun k => winT U l k 2) = zipP (U.drop 1) l := by
  have : (fun k => winT U l k 2) = fun k => oneP (U.drop 1)[k]? l[k]? := by funext k; simp [winT, Nat.add_comm]
  rw [this, zipR _ l l.length (Nat.le_refl _)]
def verP (U l : List Bs) : List PairT := zipP U (l.drop 1) ++ (zipP U l ++ zipP (U.drop 1) l)
theorem win_perm (U l : List Bs) : ((List.range l.length).flatMap (winS U l)).Perm (verP U l) := by
  have : winS U l = fun k => winT U l k 0 ++ (winT U l k 1 ++ winT U l k 2) := by funext k; simp [winS, List.range_succ]
  rw [this]
  refine (perm_ap _).trans ?_
  rw [winT_0]
  refine List.Perm.append_left _ ((perm_ap _).trans ?_)
  rw [winT_1, winT_2]
theorem rowS_perm (U l : List Bs) : (rowS U l).Perm (zipP l (l.drop 1) ++ verP U l) := by
  refine (perm_ap _).trans ?_
  rw [winT_0]
  exact List.Perm.append_left _ (win_perm U l)
theorem rowR_perm (l D : List Bs) : (rowR l D).Perm (zipP l (l.drop 1) ++ verP D l) := by
  refine (perm_ap _).trans ?_
  have : horR l = fun k => oneP l[k]? (l.drop 1)[k]? := by funext k; simp [horR, Nat.add_comm]
  rw [this, zipR _ (l.drop 1) l.length (by simp)]
  exact List.Perm.append_left _ (win_perm D l)
theorem ver_perm (U l : List Bs) : (verP U l).Perm (verP l U) := by
  unfold verP
  rw [zipP_symm U (l.drop 1), zipP_symm U l, zipP_symm (U.drop 1) l]
  refine List.perm_append_comm.trans ?_
  rw [List.append_assoc]
  exact List.perm_append_comm_assoc ..
theorem ver_nil (l : List Bs) : verP [] l = [] := by simp [verP, zipP]
theorem pairs_perm (rows : List (List Bs)) : (pairsS rows).Perm (pairsR rows) := by
  refine (perm_fm _ fun i _ => rowS_perm _ _).trans ((perm_ap _).trans ?_)
  refine List.Perm.trans ?_ ((perm_fm _ fun i _ => rowR_perm _ _).trans (perm_ap _)).symm
  refine List.Perm.append_left _ ?_
  cases hn : rows.length with
  | zero => exact .nil
  | succ n =>
    rw [range_0, List.range_succ, List.flatMap_append]
    have e1 : verP (preR rows 0) (rowAt rows 0) = [] := ver_nil _
    have e2 : rowAt rows (n + 1) = [] := by simp [rowAt, hn]
    rw [e1, List.nil_append, List.flatMap_singleton, e2, ver_nil, List.append_nil]
    exact perm_fm _ fun i _ => by simpa [preR] using ver_perm (rowAt rows i) (rowAt rows (i + 1))

/-! What is wrong with a keyboard. -/
def longK (r : List Bs) : Bool := decide (40 < r.length) || longW r
def greatL : List (List Bs) → Bool
  | [] => false
  | r :: l => longK r || greatL l
def greatK (rows : List (List Bs)) : Bool := decide (8 < rows.length) || greatL rows
def badL (S : List Bs) : List Bs → Bool
  | [] => false
  | x :: l => !symS x || (decide (x ∈ S) || badL (S ++ [x]) l)
def vKey (rows : List (List Bs)) (c : Int) : Int :=
  if greatK rows = true then 3 else if badL [] rows.flatten = true then 1 else if c < 0 ∨ 1000 < c then 1 else if 200 < (pairsS rows).length then 3 else 0
def keyN (rows : List (List Bs)) (c : Int) : List PV := if vKey rows c = 0 then nrV (fun _ => c) (srt cmpK (pairsS rows)) else []
theorem badL_eq : ∀ (S l : List Bs), badL S l = false ↔ (∀ x ∈ l, symS x = true) ∧ l.Nodup ∧ ∀ x ∈ l, x ∉ S
  | S, [] => by simp [badL]
  | S, x :: l => by
    simp only [badL, Bool.or_eq_false_iff, badL_eq (S ++ [x]) l, Bool.not_eq_false', decide_eq_false_iff_not, List.mem_cons, forall_eq_or_imp, List.nodup_cons, List.mem_append, List.not_mem_nil, or_false, not_or]
    constructor
    · rintro ⟨h1, h2, h3, h4, h5⟩
      exact ⟨⟨h1, h3⟩, ⟨fun h => (h5 x h).2 rfl, h4⟩, h2, fun y hy => (h5 y hy).1⟩
    · rintro ⟨⟨h1, h3⟩, ⟨h4, h5⟩, h2, h6⟩
      exact ⟨h1, h2, h3, h5, fun y hy => ⟨h6 y hy, by rintro rfl; exact h4 hy⟩⟩
theorem setL_nd (w : List Bs) : (setL w).length = w.length ↔ w.Nodup := by
  have hp : (setL w).Pairwise (fun a b => cmpB a b < 0) := intos_pw linB .nil
  have hn : (setL w).Nodup := hp.imp fun {a b} hab e => by subst e; rw [cmpB_self] at hab; omega
  have hm : ∀ x, x ∈ setL w ↔ x ∈ w := fun x => by rw [show setL w = w.foldl (into cmpB) [] from rfl, intos_mem]; simp
  constructor
  · intro h
    induction w with
    | nil => exact .nil
    | cons x w _ =>
      -- the shortest list with these members
      apply Classical.byContradiction
      intro hc
      have key : ∀ (l : List Bs), ¬ l.Nodup → ∃ l' : List Bs, l'.length < l.length ∧ ∀ y ∈ l, y ∈ l' := by
        intro l
        induction l with
        | nil => intro h; exact absurd .nil h
        | cons y l ih =>
          intro h
          by_cases h2 : y ∈ l
          · exact ⟨l, by simp, fun z hz => (List.mem_cons.1 hz).elim (fun e => e ▸ h2) id⟩
          · obtain ⟨l', h3, h4⟩ := ih fun h5 => h (List.nodup_cons.2 ⟨h2, h5⟩)
            exact ⟨y :: l', by simp; omega, fun z hz => (List.mem_cons.1 hz).elim (fun e => by simp [e]) (fun hz => by simp [h4 z hz])⟩
      obtain ⟨l', h3, h4⟩ := key _ hc
      have := nd_le hn (w := l') fun y hy => h4 y ((hm y).1 hy)
      omega
  · intro h
    have h1 := nd_le hn fun x hx => (hm x).1 hx
    have h2 := nd_le h fun x hx => (hm x).2 hx
    omega
def seenV (S : List Bs) : List PV := S.map fun s => .st [.w (.string (bs s)), .w (.bool true)]
theorem seen_find (a : Bs) : ∀ S : List Bs, mfind false [false] (.w (.string (bs a))) (seenV S) = some (if a ∈ S then some (.w (.bool true)) else none)
  | [] => rfl
  | x :: S => by
    have ih := seen_find a S
    simp only [seenV, List.map_cons] at ih ⊢
    by_cases h : a = x
    · subst h; simp [mfind, keq]
    · simp [mfind, keq, h, ih]
theorem seen_set {a : Bs} : ∀ {S : List Bs}, a ∉ S → mset false [false] (.w (.string (bs a))) (.w (.bool true)) (seenV S) = some (seenV (S ++ [a]))
  | [], _ => rfl
  | x :: S, h => by
    simp only [List.mem_cons, not_or] at h
    have ih := seen_set (a := a) (S := S) h.2
    simp only [seenV, List.map_cons, List.cons_append] at ih ⊢
    simp [mset, keq, h.1, ih]
theorem pairs_len (rows : List (List Bs)) : (pairsS rows).length = (pairsR rows).length := (pairs_perm rows).length_eq
theorem fm_succ {β : Type} (f : Nat → List β) (n : Nat) : (List.range (n + 1)).flatMap f = (List.range n).flatMap f ++ f n := by
  rw [List.range_succ, List.flatMap_append, List.flatMap_singleton]
theorem fm_len {β : Type} {f : Nat → List β} {m : Nat} (h : ∀ k, (f k).length ≤ m) : ∀ n : Nat, ((List.range n).flatMap f).length ≤ m * n
  | 0 => by simp
  | n + 1 => by
    rw [fm_succ, List.length_append]
    have := fm_len h n
    have := h n
    rw [Nat.mul_succ]; omega
theorem oneP_len (a b : Option Bs) : (oneP a b).length ≤ 1 := by cases a <;> cases b <;> simp [oneP]
theorem winT_len (U l : List Bs) (k t : Nat) : (winT U l k t).length ≤ 1 := by
  unfold winT; split
  · exact oneP_len _ _
  · simp
theorem winS_len (U l : List Bs) (k : Nat) : (winS U l k).length ≤ 3 := fm_len (winT_len U l k) 3
theorem itemR_len (l D : List Bs) (k : Nat) : (horR l k ++ winS D l k).length ≤ 4 := by
  rw [List.length_append]; have := oneP_len l[k]? l[k + 1]?; have := winS_len D l k; unfold horR; omega
theorem itemS_len (U l : List Bs) (k : Nat) : (winT l l k 0 ++ winS U l k).length ≤ 4 := by
  rw [List.length_append]; have := winT_len l l k 0; have := winS_len U l k; omega
theorem win_nil (l : List Bs) (k t : Nat) : winT [] l k t = [] := by
  unfold winT; split <;> simp [oneP]
theorem winS_nil (l : List Bs) (k n : Nat) : (List.range n).flatMap (winT [] l k) = [] := by
  have : winT [] l k = fun _ => [] := by funext t; exact win_nil l k t
  rw [this]; simp
theorem rowAt_get {rows : List (List Bs)} {i : Nat} (h : i < rows.length) : (rows.map PV.word)[i]? = some (PV.word (rowAt rows i)) := by simp [rowAt, List.getElem?_eq_getElem h]
theorem rowAt_mem {rows : List (List Bs)} {i : Nat} (h : i < rows.length) : rowAt rows i ∈ rows := by simp [rowAt, List.getElem?_eq_getElem h]
theorem word_get {l : List Bs} {k : Nat} (h : k < l.length) : (l.map fun s => PV.w (.string (bs s)))[k]? = some (.w (.string (bs l[k]))) := by simp [List.getElem?_eq_getElem h]
theorem nrV_app (g : PairT → Int) (a b : List PairT) : nrV g (a ++ b) = nrV g a ++ nrV g b := by simp [nrV]
theorem great_ok : ∀ {rows : List (List Bs)}, greatL rows = false → ∀ r ∈ rows, r.length ≤ 40 ∧ longW r = false
  | [], _, r, hr => by simp at hr
  | y :: l, h, r, hr => by
    simp only [greatL, longK, Bool.or_eq_false_iff, decide_eq_false_iff_not] at h
    rcases List.mem_cons.1 hr with rfl | hr
    · exact ⟨by omega, h.1.2⟩
    · exact great_ok h.2 r hr
theorem flat_len : ∀ {rows : List (List Bs)}, (∀ r ∈ rows, r.length ≤ 40) → rows.flatten.length ≤ 40 * rows.length
  | [], _ => by simp
  | y :: l, h => by
    have := flat_len (rows := l) fun r hr => h r (by simp [hr])
    have := h y (by simp)
    simp only [List.flatten_cons, List.length_append, List.length_cons]; omega
theorem srtK_congr {l l' : List PairT} (h : l.Perm l') : srt cmpK l = srt cmpK l' := srt_uniq linK ((srt_perm l).trans h) (srt_pw linK l)

end Go.Proofs

/- Plain laws. -/
import Derived.Test.YtepjlojlkionfaaRs4
set_option linter.all false
set_option maxHeartbeats 2000000
namespace Go.Proofs
open Go Go.AM
def VS (t : TagT) : List (List Int) → Nat → TlT → Prop
  | [], _, _ => False
  | [w], k, y => 0 ≤ at0 w k ∧ y = (at0 w k + at0 t.2.2.1 k, [k])
  | w :: v :: W, k, y => 0 ≤ at0 w k ∧ ∃ (k' : Nat) (p : Int) (x : TlT), k' < t.1.length ∧ (t.2.2.2.1.getD k [])[k']? = some p ∧ VS t (v :: W) k' x ∧ y = img (at0 w k) (some k) p x
theorem VS_pos {t : TagT} {w : List Int} {W : List (List Int)} {k : Nat} {y : TlT} (h : VS t (w :: W) k y) : 0 ≤ at0 w k := by
  cases W with
  | nil => exact h.1
  | cons v W => exact h.1
theorem VS_tag {t : TagT} {w : List Int} {W : List (List Int)} {k : Nat} {y : TlT} (h : VS t (w :: W) k y) : ∃ a, y.2 = k :: a := by
  cases W with
  | nil => obtain ⟨_, rfl⟩ := h; exact ⟨[], rfl⟩
  | cons v W => obtain ⟨_, k', p, x, _, _, _, rfl⟩ := h; exact ⟨x.2, rfl⟩
theorem tls_first {t : TagT} (ht : OkT t) {M : Nat} (hM : 1 ≤ M) : ∀ (W : List (List Int)) (w : List Int), (∀ x ∈ w :: W, csB t.1.length (-1) x = true) → ∀ k, k < t.1.length → FirstM cT M (VS t (w :: W) k) (((tlsF t M (w :: W)).headD []).getD k [])
  | [], w, hW, k, hk => by
    have e : ((tlsF t M [w]).headD []).getD k [] = if at0 w k < 0 then [] else [(at0 w k + at0 t.2.2.1 k, [k])] := by simp [tlsF, lastT, hk]
    rw [e]
    by_cases q : at0 w k < 0
    · rw [if_pos q]
      exact ⟨.nil, by simp, by simp, fun v hv _ => by have := hv.1; omega⟩
    · rw [if_neg q]
      refine ⟨by simp, fun x hx => ?_, by simpa using hM, fun v hv hn => ?_⟩
      · simp only [List.mem_singleton] at hx; subst hx; exact ⟨by omega, rfl⟩
      · exact (hn (by simp [hv.2])).elim
  | v :: W, w, hW, k, hk => by
    have ih := tls_first ht hM W v (fun x hx => hW x (by simp [hx]))
    have e : ((tlsF t M (w :: v :: W)).headD []).getD k [] = if at0 w k < 0 then [] else mrg (t.2.2.2.1.getD k []) (at0 w k) (some k) M ((tlsF t M (v :: W)).headD []) := by simp [tlsF, nextT, hk]
    rw [e]
    by_cases q : at0 w k < 0
    · rw [if_pos q]
      exact ⟨.nil, by simp, by simp, fun v hv _ => by have := hv.1; omega⟩
    rw [if_neg q]
    have hgood : GoodT t M (v :: W).length ((tlsF t M (v :: W)).headD []) := by
      refine tlsF_good ht hM (v :: W) (fun x hx => hW x (by simp [hx])) _ ?_
      have := tlsF_cons t M (v :: W) (i := 0) (by simp)
      rw [List.drop_zero] at this
      rw [this]; simp
    have hlen := hgood.len
    generalize (tlsF t M (v :: W)).headD [] = R at ih hlen ⊢
    have hkp : k < t.2.2.2.1.length := by rw [ht.pl]; exact hk
    have hpk := csB_len (ht.p _ (List.getElem_mem hkp))
    have hgp : t.2.2.2.1.getD k [] = t.2.2.2.1[k] := by simp [hkp]
    have hm := mrg_first (ps := t.2.2.2.1.getD k []) (cost := at0 w k) (tag := some k) (M := M) (R := R) (V := fun j x => j < t.1.length ∧ VS t (v :: W) j x) (by rw [hgp, hpk, hlen]) (fun j r hr => by
      have hj : j < R.length := (List.getElem?_eq_some_iff.1 hr).1
      have h1 := ih j (by omega)
      rw [List.getD_eq_getElem?_getD, hr, Option.getD_some] at h1
      exact h1.congr fun x => ⟨fun h => ⟨by omega, h⟩, fun h => h.2⟩) (fun j x h => VS_tag h.2)
    refine hm.congr fun y => ?_
    constructor
    · rintro ⟨j, p, x, h1, h2, ⟨h3, h4⟩, rfl⟩
      exact ⟨by omega, j, p, x, h3, h2, h4, rfl⟩
    · rintro ⟨_, j, p, x, h3, h2, h4, rfl⟩
      exact ⟨j, p, x, by omega, h2, ⟨h3, h4⟩, rfl⟩
/-! Beginnings and ends. -/
theorem Ws_drop (t : TagT) (l : List Bs) {i : Nat} (hi : i < l.length) : (l.map (costsF t)).drop i = costsF t (l.getD i []) :: (l.map (costsF t)).drop (i + 1) := by
  have h : i < (l.map (costsF t)).length := by simpa using hi
  rw [drop_at h]
  have e : l.getD i [] = l[i] := by simp [hi]
  rw [e]; simp
theorem restAt_last {t : TagT} {l : List Bs} {i : Nat} (hi : i + 1 = l.length) : restAt t l i = t.2.2.1 := by
  unfold restAt
  rw [drop_at (show i < l.length by omega), drop_no (show ¬ i + 1 < l.length by omega)]
  rfl
theorem VS_rest {t : TagT} (ht : OkT t) (l : List Bs) : ∀ (d i : Nat), i + d + 1 = l.length → ∀ k x, k < t.1.length → VS t ((l.map (costsF t)).drop i) k x → 0 ≤ at0 (restAt t l i) k
  | 0, i, hi, k, x, hk, h => by
    rw [restAt_last (by omega)]
    exact (csB_at ht.z hk).1
  | d + 1, i, hi, k, x, hk, h => by
    rw [Ws_drop t l (show i < l.length by omega), Ws_drop t l (show i + 1 < l.length by omega)] at h
    obtain ⟨_, k', p, x', hk', hp, hx', rfl⟩ := h
    have h0 := VS_pos hx'
    rw [← Ws_drop t l (show i + 1 < l.length by omega)] at hx'
    have ih := VS_rest ht l d (i + 1) (by omega) k' x' hk' hx'
    rw [restAt_prev (by omega) hk]
    have hkp : k < t.2.2.2.1.length := by rw [ht.pl]; exact hk
    have hgp : t.2.2.2.1.getD k [] = t.2.2.2.1[k] := by simp [hkp]
    have hpk := ht.p _ (List.getElem_mem hkp)
    have hin := waysF_in (p := t.2.2.2.1.getD k []) (c := costsF t (l.getD (i + 1) [])) (r := restAt t l (i + 1)) k' (by rw [hgp, csB_len hpk]; exact hk') (by rw [csB_len (costsF_ok ht _)]; exact hk') (by rw [rest_len ht (by omega)]; exact hk') h0 ih
    obtain ⟨y, hy, _⟩ := (lstO_le _ none).1 _ hin
    unfold lstB
    rw [hy]
    simp only [Option.isSome_some, if_true, oI]
    rcases lstO_mem _ _ _ hy with e | e
    · cases e
    · obtain ⟨a, q1, b, q2, d, q3, q4, q5, rfl⟩ := waysF_mem e
      rw [hgp] at q1
      have := csB_rng hpk a q1
      omega
theorem VS_go {t : TagT} (ht : OkT t) (l : List Bs) : ∀ (d i : Nat), i + d + 1 = l.length → ∀ p k x, VP t l i p → k < t.1.length → VS t ((l.map (costsF t)).drop i) k x → VP t l l.length (p ++ x.2) ∧ allP t l (p ++ x.2) = costP t l p + stepF t p.getLast? k + x.1
  | 0, i, hi, p, k, x, hp, hk, h => by
    have hr := VS_rest ht l 0 i hi k x hk h
    have hl := VP_len hp
    rw [Ws_drop t l (show i < l.length by omega), drop_no (show ¬ i + 1 < (l.map (costsF t)).length by simp; omega)] at h
    obtain ⟨h1, rfl⟩ := h
    have hv : VP t l (i + 1) (p ++ [k]) := ⟨p, k, rfl, hp, hk, h1, hr⟩
    rw [show i + 1 = l.length by omega] at hv
    refine ⟨hv, ?_⟩
    simp only
    rw [allP_snoc, costP_snoc t l p k (by omega), hl, restAt_last (by omega)]
    omega
  | d + 1, i, hi, p, k, x, hp, hk, h => by
    have hr := VS_rest ht l (d + 1) i hi k x hk h
    have hl := VP_len hp
    rw [Ws_drop t l (show i < l.length by omega), Ws_drop t l (show i + 1 < l.length by omega)] at h
    obtain ⟨h1, k', pp, x', hk', hpp, hx', rfl⟩ := h
    rw [← Ws_drop t l (show i + 1 < l.length by omega)] at hx'
    have hv : VP t l (i + 1) (p ++ [k]) := ⟨p, k, rfl, hp, hk, h1, hr⟩
    obtain ⟨g1, g2⟩ := VS_go ht l d (i + 1) (by omega) (p ++ [k]) k' x' hv hk' hx'
    have e : p ++ (img (at0 (costsF t (l.getD i [])) k) (some k) pp x').2 = p ++ [k] ++ x'.2 := by simp [img, tgd]
    rw [e]
    refine ⟨g1, ?_⟩
    rw [g2, costP_snoc t l p k (by omega), hl]
    have e2 : stepF t (p ++ [k]).getLast? k' = pp := by
      simp only [List.getLast?_concat, stepF, at0, List.getD_eq_getElem?_getD] at hpp ⊢
      rw [hpp]; rfl
    rw [e2]
    simp only [img]
    omega
theorem VP_split {t : TagT} (ht : OkT t) (l : List Bs) {a : List Nat} (ha : VP t l l.length a) : ∀ (d i : Nat), i + d = l.length → ∃ p, VP t l i p ∧ ((d = 0 ∧ a = p) ∨ (0 < d ∧ ∃ k x, k < t.1.length ∧ VS t ((l.map (costsF t)).drop i) k x ∧ a = p ++ x.2))
  | 0, i, hi => ⟨a, by rw [show i = l.length by omega]; exact ha, .inl ⟨rfl, rfl⟩⟩
  | d + 1, i, hi => by
    obtain ⟨p', hp', hc⟩ := VP_split ht l ha d (i + 1) (by omega)
    obtain ⟨p, k, rfl, hp, hk, h1, h2⟩ := hp'
    refine ⟨p, hp, .inr ⟨by omega, ?_⟩⟩
    rcases hc with ⟨rfl, rfl⟩ | ⟨hd, k', x, hk', hx, rfl⟩
    · refine ⟨k, (at0 (costsF t (l.getD i [])) k + at0 t.2.2.1 k, [k]), hk, ?_, rfl⟩
      rw [Ws_drop t l (show i < l.length by omega), drop_no (show ¬ i + 1 < (l.map (costsF t)).length by simp; omega)]
      exact ⟨h1, rfl⟩
    · have hkp : k < t.2.2.2.1.length := by rw [ht.pl]; exact hk
      have hgp : t.2.2.2.1.getD k [] = t.2.2.2.1[k] := by simp [hkp]
      have hpk := csB_len (ht.p _ (List.getElem_mem hkp))
      have hkk : k' < t.2.2.2.1[k].length := by omega
      refine ⟨k, img (at0 (costsF t (l.getD i [])) k) (some k) t.2.2.2.1[k][k'] x, hk, ?_, by simp [img, tgd]⟩
      rw [Ws_drop t l (show i + 1 < l.length by omega)] at hx
      rw [Ws_drop t l (show i < l.length by omega), Ws_drop t l (show i + 1 < l.length by omega)]
      exact ⟨h1, k', _, x, hk', by rw [hgp]; exact List.getElem?_eq_getElem hkk, hx, rfl⟩
/-- The first rows of words, both ways. -/
def firstF (t : TagT) (l : List Bs) (M : Nat) : List TlT := match l with
  | [] => [(0, [])]
  | _ :: _ => mrg t.2.1 0 none M ((tlsF t M (l.map (costsF t))).headD [])
theorem cT_map {f : List Nat → Int} {a b : List Nat} : cT (f a, a) (f b, b) = cmpP f a b := rfl
theorem first_same {t : TagT} (ht : OkT t) (l : List Bs) (m : Nat) : firstF t l (m + 1) = (sevP t l m l.length).map fun a => (allP t l a, a) := by
  cases hl : l with
  | nil => simp [firstF, sevP, allP]
  | cons w0 l0 =>
    rw [← hl]
    have hpos : 0 < l.length := by rw [hl]; simp
    have e : firstF t l (m + 1) = mrg t.2.1 0 none (m + 1) ((tlsF t (m + 1) (l.map (costsF t))).headD []) := by rw [hl]; rfl
    rw [e]
    have hW : ∀ x ∈ l.map (costsF t), csB t.1.length (-1) x = true := by
      intro x hx
      obtain ⟨y, _, rfl⟩ := List.mem_map.1 hx
      exact costsF_ok ht y
    have hWs := Ws_drop t l hpos
    rw [List.drop_zero] at hWs
    have hgood : GoodT t (m + 1) (l.map (costsF t)).length ((tlsF t (m + 1) (l.map (costsF t))).headD []) := by
      refine tlsF_good ht (by omega) _ hW _ ?_
      have := tlsF_cons t (m + 1) (l.map (costsF t)) (i := 0) (by simpa using hpos)
      rw [List.drop_zero] at this
      rw [this]; simp
    have htf := fun k hk => tls_first ht (M := m + 1) (by omega) ((l.map (costsF t)).drop 1) (costsF t (l.getD 0 [])) (by rw [← hWs]; exact hW) k hk
    rw [← hWs] at htf
    have hlen := hgood.len
    generalize (tlsF t (m + 1) (l.map (costsF t))).headD [] = R at htf hlen ⊢
    have hfl := csB_len ht.f
    have h1 := mrg_first (ps := t.2.1) (cost := 0) (tag := none) (M := m + 1) (R := R) (V := fun j x => j < t.1.length ∧ VS t (l.map (costsF t)) j x) (by rw [hfl, hlen]) (fun j r hr => by
      have hj : j < R.length := (List.getElem?_eq_some_iff.1 hr).1
      have h1 := htf j (by omega)
      rw [List.getD_eq_getElem?_getD, hr, Option.getD_some] at h1
      exact h1.congr fun x => ⟨fun h => ⟨by omega, h⟩, fun h => h.2⟩) (fun j x h => by
      have h2 := h.2
      rw [hWs] at h2
      exact VS_tag h2)
    have h2 := sevP_first ht l m l.length (Nat.le_refl _)
    have h3 : FirstM cT (m + 1) (fun y => ∃ a, VP t l l.length a ∧ y = (allP t l a, a)) ((sevP t l m l.length).map fun a => (allP t l a, a)) := by
      refine ⟨?_, fun y hy => ?_, by simpa using h2.len, fun y hy hn => ?_⟩
      · rw [List.pairwise_map]
        exact h2.asc
      · obtain ⟨a, ha, rfl⟩ := List.mem_map.1 hy
        exact ⟨a, h2.mem a ha, rfl⟩
      · obtain ⟨a, ha, rfl⟩ := hy
        obtain ⟨q1, q2⟩ := h2.out a ha fun h => hn (List.mem_map.2 ⟨a, h, rfl⟩)
        refine ⟨by simpa using q1, fun x hx => ?_⟩
        obtain ⟨b, hb, rfl⟩ := List.mem_map.1 hx
        exact q2 b hb
    refine FirstM.uniq linT (h1.congr fun y => ?_) h3
    have hstep : ∀ (k : Nat) (p : Int), t.2.1[k]? = some p → stepF t ([] : List Nat).getLast? k = p := fun k p h => by
      simp only [List.getLast?_nil, stepF, at0, List.getD_eq_getElem?_getD, h]; rfl
    have hc0 : costP t l [] = 0 := by cases l <;> simp [costP, cstG]
    have hv0 : VP t l 0 [] := rfl
    constructor
    · rintro ⟨j, p, x, g1, g2, ⟨g3, g4⟩, rfl⟩
      obtain ⟨q1, q2⟩ := VS_go ht l (l.length - 1) 0 (by omega) [] j x hv0 g3 (by rw [List.drop_zero]; exact g4)
      rw [hstep j p g2, hc0] at q2
      simp only [List.nil_append] at q1 q2
      refine ⟨x.2, q1, ?_⟩
      rw [q2]
      simp only [img, tgd]
    · rintro ⟨a, ha, rfl⟩
      obtain ⟨p0, hp0, hc⟩ := VP_split ht l ha l.length 0 (by omega)
      simp only [VP] at hp0
      subst hp0
      rcases hc with ⟨h0, _⟩ | ⟨_, k, x, hk, hx, rfl⟩
      · omega
      · have hkf : k < t.2.1.length := by omega
        have hf := List.getElem?_eq_getElem hkf
        obtain ⟨q1, q2⟩ := VS_go ht l (l.length - 1) 0 (by omega) [] k x hv0 hk hx
        rw [hstep k _ hf, hc0] at q2
        rw [List.drop_zero] at hx
        simp only [List.nil_append] at q2 ⊢
        refine ⟨k, _, x, by omega, hf, ⟨hk, hx⟩, ?_⟩
        rw [q2]
        simp only [img, tgd]

end Go.Proofs

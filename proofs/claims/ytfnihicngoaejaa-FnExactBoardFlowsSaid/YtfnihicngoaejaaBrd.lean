/- Boarding: what comes of it, in plain terms. -/
import Derived.Test.YtfnihicngoaejaaServI
namespace Go.Proofs.Ytfnihicngoaejaa
set_option linter.unusedSimpArgs false
set_option linter.unusedVariables false
open Go.RowKit

/-- How many can still board, behind k parts of a way. -/
def capN (l : List Int) (cap n a : Int) : Nat → Int
  | 0 => n
  | k + 1 => min (capN l cap n a k) (cap - ix l (a + k))
/-- n more persons on k parts of a way. -/
def addW (l : List Int) (a n : Int) : Nat → List Int
  | 0 => l
  | k + 1 => (addW l a n k).set (a + k).toNat (ix (addW l a n k) (a + k) + n)
def maxW (l : List Int) (a : Int) : Nat → Int
  | 0 => ix l a
  | k + 1 => max (maxW l a k) (ix l (a + (k + 1 : Nat)))
theorem capN_max {l : List Int} {cap n a : Int} : ∀ {k : Nat}, capN l cap n a (k + 1) = min n (cap - maxW l a k)
  | 0 => by simp [capN, maxW]
  | k + 1 => by
    rw [capN, capN_max (k := k), maxW]
    omega
theorem addW_len {l : List Int} {a n : Int} : ∀ {k : Nat}, (addW l a n k).length = l.length
  | 0 => rfl
  | k + 1 => by rw [addW, List.length_set, addW_len]
theorem set_same_ix {α : Type} [Inhabited α] {l : List α} {j : Nat} : l.set j (ix l (j : Int)) = l := by
  apply List.ext_getElem?
  intro i
  rw [List.getElem?_set]
  split
  · rename_i e
    subst e
    split
    · rename_i h
      simp [ix, h]
    · rename_i h
      rw [List.getElem?_eq_none (by omega)]
  · rfl
theorem addW_zero {l : List Int} {a : Int} (ha : 0 ≤ a) : ∀ {k : Nat}, addW l a 0 k = l
  | 0 => rfl
  | k + 1 => by
    rw [addW, addW_zero ha (k := k), Int.add_zero]
    have : (a + (k : Int)) = ((a + k).toNat : Int) := by omega
    rw [this]
    exact set_same_ix
theorem ix_set_same {α : Type} [Inhabited α] {l : List α} {j : Nat} {x : α} (h : j < l.length) : ix (l.set j x) (j : Int) = x := by simp [ix, h]
theorem ix_set_ne {α : Type} [Inhabited α] {l : List α} {j : Nat} {i : Int} {x : α} (h : i.toNat ≠ j) : ix (l.set j x) i = ix l i := by
  unfold ix
  rw [List.getD_eq_getElem?_getD, List.getD_eq_getElem?_getD, List.getElem?_set_ne (Ne.symm h)]
theorem addW_ix {l : List Int} {a n : Int} (ha : 0 ≤ a) : ∀ {k : Nat} {j : Int}, a + k ≤ l.length → 0 ≤ j → ix (addW l a n k) j = if a ≤ j ∧ j < a + k then ix l j + n else ix l j
  | 0, j, _, _ => by rw [if_neg (by omega)]; rfl
  | k + 1, j, h, hj => by
    have ih := fun j hj => addW_ix (l := l) (n := n) ha (k := k) (j := j) (by omega) hj
    rw [addW]
    by_cases e : j = a + k
    · subst e
      have e1 : (a + (k : Int)) = ((a + k).toNat : Int) := by omega
      rw [if_pos (by omega), ih _ (by omega), if_neg (by omega)]
      have := ix_set_same (l := addW l a n k) (j := (a + (k : Int)).toNat) (x := ix l (a + (k : Int)) + n) (by rw [addW_len]; omega)
      rw [← e1] at this
      exact this
    · rw [ix_set_ne (by omega), ih j hj]
      by_cases h1 : a ≤ j ∧ j < a + k
      · rw [if_pos h1, if_pos (by omega)]
      · rw [if_neg h1, if_neg (by omega)]

/-- A boarding: the flow, the trip that serves it, the persons. -/
structure Bg where
  f : Int
  s : Sv
  n : Int
instance : Inhabited Bg := ⟨⟨0, default, 0⟩⟩
structure Bd where
  L : List (List Int)
  P : Int
  M : Int
  N : Int
  O : List Int
  F : List Int
  B : List Bg
def bdN (cap : Int) (st : Bd) (s : Sv) : Int := capN (ix st.L s.t) cap st.P s.p (s.q - s.p).toNat
def bdStep (cap i : Int) (f : Flw) (st : Bd) (s : Sv) : Bd :=
  ⟨st.L.set s.t.toNat (addW (ix st.L s.t) s.p (bdN cap st s) (s.q - s.p).toNat), st.P - bdN cap st s, st.M + bdN cap st s * (s.a - f.M), st.N + bdN cap st s,
   st.O.set f.F.toNat (ix st.O f.F + bdN cap st s), st.F.set f.T.toNat (ix st.F f.T + bdN cap st s), if bdN cap st s = 0 then st.B else st.B ++ [⟨i, s, bdN cap st s⟩]⟩
def bdIn (cap i : Int) (f : Flw) (ss : List Sv) (st : Bd) : Nat → Bd
  | 0 => st
  | k + 1 => bdStep cap i f (bdIn cap i f ss st k) (ix ss k)
def bdP (st : Bd) (p : Int) : Bd := { st with P := p }
def bd0 (t : Tab) : Bd := ⟨(List.range t.T.length).map fun j : Nat => List.replicate ((trLin t j).S.length - 1) 0, 0, 0, 0, List.replicate t.N.S.length 0, List.replicate t.N.S.length 0, []⟩
def bdO (t : Tab) (fs : List Flw) (cap : Int) : Nat → Bd × List Int
  | 0 => (bd0 t, [])
  | i + 1 =>
    (bdIn cap i (ix fs i) (svS t (ix fs i)) (bdP (bdO t fs cap i).1 (ix fs i).P) (svS t (ix fs i)).length,
     (bdO t fs cap i).2 ++ [(bdIn cap i (ix fs i) (svS t (ix fs i)) (bdP (bdO t fs cap i).1 (ix fs i).P) (svS t (ix fs i)).length).P])
theorem bdO_left {t : Tab} {fs : List Flw} {cap : Int} : ∀ {i : Nat}, (bdO t fs cap i).2.length = i
  | 0 => rfl
  | i + 1 => by rw [bdO, List.length_append, bdO_left]; rfl

/-- What is kept: the sizes, and the bounds behind k steps. -/
structure BdOk (t : Tab) (cap : Int) (k : Int) (st : Bd) : Prop where
  l : st.L.length = t.T.length
  r : ∀ j : Nat, j < t.T.length → (ix st.L j).length = (trLin t j).S.length - 1
  v : ∀ (j : Nat) (p : Int), j < t.T.length → 0 ≤ p → p < (ix st.L j).length → 0 ≤ ix (ix st.L j) p ∧ ix (ix st.L j) p ≤ cap
  p : 0 ≤ st.P ∧ st.P ≤ 500
  n : 0 ≤ st.N ∧ st.N ≤ 500 * k
  m : 0 ≤ st.M ∧ st.M ≤ 2000000 * k
  o : st.O.length = t.N.S.length
  f : st.F.length = t.N.S.length
  ov : ∀ p : Int, 0 ≤ p → p < t.N.S.length → 0 ≤ ix st.O p ∧ ix st.O p ≤ 500 * k
  fv : ∀ p : Int, 0 ≤ p → p < t.N.S.length → 0 ≤ ix st.F p ∧ ix st.F p ≤ 500 * k
/-- What is known of a trip that serves a flow. -/
structure SvOk (t : Tab) (f : Flw) (s : Sv) : Prop where
  ht : 0 ≤ s.t ∧ s.t < t.T.length
  hp : 0 ≤ s.p ∧ s.p < s.q ∧ s.q < (trLin t s.t).S.length
  ok : svOk t f s.t = true
  e : s = svX t f s.t
  ha : f.M ≤ s.a ∧ s.a ≤ 3000
theorem svS_ok {t : Tab} {f : Flw} (hv : tabB t = true) {k : Int} (h0 : 0 ≤ k) (h1 : k < (svS t f).length) : SvOk t f (ix (svS t f) k) := by
  obtain ⟨j, hj, hok, he⟩ := svS_at h0 h1
  rw [he]
  have h2 := svOk_t hok
  have hz := tabB_lin hv (i := (j : Int)) (by omega) (by omega)
  have htr := tabB_at hv (i := (j : Int)) (by omega) (by omega)
  have hq : svQ t f j < (trLin t j).S.length := fndI_bd.2
  have hr := hz.r
  have hs := hz.s
  have hpq := hz.pre (svQ t f j).toNat (by omega)
  have hmono : ∀ (a d : Nat), ((a + d : Nat) : Int) ≤ (trLin t j).R.length → preI (trLin t j).R a ≤ preI (trLin t j).R (a + d) := by
    intro a d
    induction d with
    | zero => intro _; exact Int.le_refl _
    | succ d ih =>
      intro h
      have := ih (by omega)
      have hv := hz.v (a + d) (by omega)
      rw [← Nat.add_assoc, preI]
      omega
  have hm := hmono (svP t f j).toNat ((svQ t f j).toNat - (svP t f j).toNat) (by omega)
  rw [show (svP t f j).toNat + ((svQ t f j).toNat - (svP t f j).toNat) = (svQ t f j).toNat by omega] at hm
  have hT := h2.2.2
  refine ⟨⟨by show (0 : Int) ≤ j; omega, by show (j : Int) < _; omega⟩, ⟨h2.1, h2.2.1, hq⟩, hok, rfl, ?_⟩
  show f.M ≤ svT t j (svQ t f j) ∧ svT t j (svQ t f j) ≤ 3000
  unfold svT at hT ⊢
  omega
theorem capN_le {l : List Int} {cap n a : Int} : ∀ {k : Nat}, capN l cap n a k ≤ n
  | 0 => Int.le_refl _
  | k + 1 => by have := capN_le (l := l) (cap := cap) (n := n) (a := a) (k := k); rw [capN]; omega
theorem capN_at {l : List Int} {cap n a : Int} {j : Nat} : ∀ {k : Nat}, j < k → capN l cap n a k ≤ cap - ix l (a + j)
  | 0, h => by omega
  | k + 1, h => by
    rw [capN]
    by_cases e : j = k
    · subst e; omega
    · have := capN_at (l := l) (cap := cap) (n := n) (a := a) (j := j) (k := k) (by omega)
      omega
theorem capN_pos {l : List Int} {cap n a : Int} (hn : 0 ≤ n) : ∀ {k : Nat}, (∀ j : Nat, j < k → ix l (a + j) ≤ cap) → 0 ≤ capN l cap n a k
  | 0, _ => hn
  | k + 1, h => by
    have := capN_pos (l := l) (cap := cap) (a := a) hn (k := k) fun j hj => h j (by omega)
    have := h k (by omega)
    rw [capN]
    omega
theorem bdN_bd {t : Tab} {f : Flw} {cap k : Int} {st : Bd} {s : Sv} (h : BdOk t cap k st) (hs : SvOk t f s) (hv : tabB t = true) : 0 ≤ bdN cap st s ∧ bdN cap st s ≤ st.P := by
  refine ⟨capN_pos h.p.1 fun j hj => ?_, capN_le⟩
  have h1 := hs.ht
  have h2 := hs.hp
  have hr := h.r s.t.toNat (by omega)
  rw [show ((s.t.toNat : Nat) : Int) = s.t by omega] at hr
  have := h.v s.t.toNat (s.p + j) (by omega) (by omega) (by rw [show ((s.t.toNat : Nat) : Int) = s.t by omega]; omega)
  rw [show ((s.t.toNat : Nat) : Int) = s.t by omega] at this
  exact this.2
theorem bdStep_ok {t : Tab} {f : Flw} {cap k i : Int} {st : Bd} {s : Sv} (hv : tabB t = true) (hf : flowB t.N.S.length f = true) (h : BdOk t cap k st) (hs : SvOk t f s) : BdOk t cap (k + 1) (bdStep cap i f st s) := by
  rw [flowB_t] at hf
  have hn := bdN_bd h hs hv
  have h1 := hs.ht
  have h2 := hs.hp
  have h3 := hs.ha
  have hp := h.p
  have hN := h.n
  have hM := h.m
  have e1 : ((s.t.toNat : Nat) : Int) = s.t := by omega
  have hr := h.r s.t.toNat (by omega)
  rw [e1] at hr
  have hmul : 0 ≤ bdN cap st s * (s.a - f.M) ∧ bdN cap st s * (s.a - f.M) ≤ 500 * 3000 :=
    ⟨Int.mul_nonneg hn.1 (by omega), Int.le_trans (Int.mul_le_mul_of_nonneg_right (c := s.a - f.M) (show bdN cap st s ≤ 500 by omega) (by omega)) (Int.mul_le_mul_of_nonneg_left (by omega) (by omega))⟩
  refine ⟨?_, fun j hj => ?_, fun j p hj hp0 hpl => ?_, ?_, ?_, ?_, ?_, ?_, fun p hp0 hpl => ?_, fun p hp0 hpl => ?_⟩
  · show (st.L.set _ _).length = _
    rw [List.length_set]; exact h.l
  · show (ix (st.L.set _ _) j).length = _
    by_cases e : j = s.t.toNat
    · subst e
      rw [ix_set_same (by rw [h.l]; omega), addW_len, e1]
      exact hr
    · rw [ix_set_ne (by omega)]; exact h.r j hj
  · revert hpl
    show p < (ix (st.L.set _ _) j).length → 0 ≤ ix (ix (st.L.set _ _) j) p ∧ ix (ix (st.L.set _ _) j) p ≤ cap
    by_cases e : j = s.t.toNat
    · subst e
      rw [ix_set_same (by rw [h.l]; omega), addW_len]
      intro hpl
      have hvp := h.v s.t.toNat p (by omega) hp0 (by rw [e1]; exact hpl)
      rw [e1] at hvp
      have hxx := addW_ix (l := ix st.L s.t) (a := s.p) (n := bdN cap st s) h2.1 (k := (s.q - s.p).toNat) (j := p) (by omega) hp0
      rw [hxx]
      split
      · rename_i hin
        have := capN_at (l := ix st.L s.t) (cap := cap) (n := st.P) (a := s.p) (j := (p - s.p).toNat) (k := (s.q - s.p).toNat) (by omega)
        rw [show s.p + (((p - s.p).toNat : Nat) : Int) = p by omega] at this
        have hdef : bdN cap st s = capN (ix st.L s.t) cap st.P s.p (s.q - s.p).toNat := rfl
        omega
      · exact hvp
    · rw [ix_set_ne (by omega)]
      exact h.v j p hj hp0
  · show 0 ≤ st.P - _ ∧ st.P - _ ≤ 500
    omega
  · show 0 ≤ st.N + _ ∧ st.N + _ ≤ _
    omega
  · show 0 ≤ st.M + _ ∧ st.M + _ ≤ _
    omega
  · show (st.O.set _ _).length = _
    rw [List.length_set]; exact h.o
  · show (st.F.set _ _).length = _
    rw [List.length_set]; exact h.f
  · show 0 ≤ ix (st.O.set _ _) p ∧ ix (st.O.set _ _) p ≤ _
    have hb := h.ov p hp0 hpl
    have hb2 := h.ov f.F (by omega) (by omega)
    by_cases e : p = f.F
    · rw [show p = ((f.F.toNat : Nat) : Int) by omega, ix_set_same (by rw [h.o]; omega)]
      omega
    · rw [ix_set_ne (by omega)]
      omega
  · show 0 ≤ ix (st.F.set _ _) p ∧ ix (st.F.set _ _) p ≤ _
    have hb := h.fv p hp0 hpl
    have hb2 := h.fv f.T (by omega) (by omega)
    by_cases e : p = f.T
    · rw [show p = ((f.T.toNat : Nat) : Int) by omega, ix_set_same (by rw [h.f]; omega)]
      omega
    · rw [ix_set_ne (by omega)]
      omega
theorem bdIn_ok {t : Tab} {f : Flw} {cap k i : Int} {st : Bd} (hv : tabB t = true) (hf : flowB t.N.S.length f = true) (h : BdOk t cap k st) : ∀ {j : Nat}, j ≤ (svS t f).length → BdOk t cap (k + j) (bdIn cap i f (svS t f) st j)
  | 0, _ => by simpa [bdIn] using h
  | j + 1, hj => by
    have := bdStep_ok (i := i) hv hf (bdIn_ok (i := i) hv hf h (j := j) (by omega)) (svS_ok hv (k := (j : Int)) (by omega) (by omega))
    rw [show k + ((j + 1 : Nat) : Int) = k + j + 1 by omega]
    exact this
theorem BdOk.mono {t : Tab} {cap k k' : Int} {st : Bd} (h : BdOk t cap k st) (hk : k ≤ k') : BdOk t cap k' st :=
  ⟨h.l, h.r, h.v, h.p, by have := h.n; omega, by have := h.m; omega, h.o, h.f, fun p a b => by have := h.ov p a b; omega, fun p a b => by have := h.fv p a b; omega⟩
theorem BdOk.put {t : Tab} {cap k p : Int} {st : Bd} (h : BdOk t cap k st) (hp : 0 ≤ p ∧ p ≤ 500) : BdOk t cap k (bdP st p) := ⟨h.l, h.r, h.v, hp, h.n, h.m, h.o, h.f, h.ov, h.fv⟩
theorem ix_rep {n : Nat} {p : Int} : ix (List.replicate n (0 : Int)) p = 0 := by
  unfold ix
  rw [List.getD_eq_getElem?_getD, List.getElem?_replicate]
  split <;> rfl
theorem ix_rng {α : Type} [Inhabited α] {n j : Nat} {g : Nat → α} (h : j < n) : ix ((List.range n).map g) (j : Int) = g j := by
  simp [ix, h]
theorem bd0_ok {t : Tab} {cap : Int} (hc : 0 ≤ cap) : BdOk t cap 0 (bd0 t) := by
  refine ⟨by simp [bd0], fun j hj => ?_, fun j p hj hp0 hpl => ?_, by simp [bd0], by simp [bd0], by simp [bd0], by simp [bd0], by simp [bd0], fun p _ _ => ?_, fun p _ _ => ?_⟩
  · show (ix ((List.range t.T.length).map fun j : Nat => List.replicate ((trLin t j).S.length - 1) (0 : Int)) (j : Int)).length = _
    rw [ix_rng hj, List.length_replicate]
  · show 0 ≤ ix (ix ((List.range t.T.length).map fun j : Nat => List.replicate ((trLin t j).S.length - 1) (0 : Int)) (j : Int)) p ∧ ix (ix ((List.range t.T.length).map fun j : Nat => List.replicate ((trLin t j).S.length - 1) (0 : Int)) (j : Int)) p ≤ cap
    rw [ix_rng hj, ix_rep]
    omega
  · show 0 ≤ ix (List.replicate _ _) p ∧ ix (List.replicate _ _) p ≤ _
    rw [ix_rep]; omega
  · show 0 ≤ ix (List.replicate _ _) p ∧ ix (List.replicate _ _) p ≤ _
    rw [ix_rep]; omega
theorem flowsB_at {t : Tab} {fs : List Flw} (h : flowsB t fs = true) {i : Int} (h0 : 0 ≤ i) (h1 : i < fs.length) : flowB t.N.S.length (ix fs i) = true := by
  simp only [flowsB, Bool.and_eq_true] at h
  have := allB_t.1 h.2 i.toNat (by omega)
  rw [show ((i.toNat : Nat) : Int) = i by omega, flowAt, Bool.and_eq_true] at this
  exact this.1
theorem flowsB_len {t : Tab} {fs : List Flw} (h : flowsB t fs = true) : (fs.length : Int) ≤ 12 := by
  simp only [flowsB, Bool.and_eq_true, decide_eq_true_eq] at h
  exact h.1
theorem bdO_ok {t : Tab} {fs : List Flw} {cap : Int} (hv : tabB t = true) (hf : flowsB t fs = true) (hc : 0 ≤ cap) : ∀ {i : Nat}, i ≤ fs.length → BdOk t cap (12 * i) (bdO t fs cap i).1
  | 0, _ => bd0_ok hc
  | i + 1, hi => by
    have hfi := flowsB_at hf (i := (i : Int)) (by omega) (by omega)
    have h12 := (tabB_k hv).2.1
    have hsl := svS_len (t := t) (f := ix fs i)
    have hfi' := hfi
    rw [flowB_t] at hfi'
    have := bdIn_ok (i := (i : Int)) hv hfi ((bdO_ok hv hf hc (i := i) (by omega)).put (p := (ix fs i).P) (by omega)) (j := (svS t (ix fs i)).length) (Nat.le_refl _)
    exact this.mono (by omega)
theorem bdO_mid {t : Tab} {fs : List Flw} {cap : Int} (hv : tabB t = true) (hf : flowsB t fs = true) (hc : 0 ≤ cap) {i j : Nat} (hi : i < fs.length) (hj : j ≤ (svS t (ix fs i)).length) :
    BdOk t cap 144 (bdIn cap i (ix fs i) (svS t (ix fs i)) (bdP (bdO t fs cap i).1 (ix fs i).P) j) := by
  have hfi := flowsB_at hf (i := (i : Int)) (by omega) (by omega)
  have h12 := (tabB_k hv).2.1
  have hfl := flowsB_len hf
  have hsl := svS_len (t := t) (f := ix fs i)
  have hfi' := hfi
  rw [flowB_t] at hfi'
  have := bdIn_ok (i := (i : Int)) hv hfi ((bdO_ok hv hf hc (i := i) (by omega)).put (p := (ix fs i).P) (by omega)) (j := j) hj
  exact this.mono (by omega)
end Go.Proofs.Ytfnihicngoaejaa

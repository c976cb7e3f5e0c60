/- Sums over the boardings, in plain terms. -/
import Derived.Test.YtfnihicngoaejaaBrd
namespace Go.Proofs.Ytfnihicngoaejaa
set_option linter.unusedSimpArgs false
set_option linter.unusedVariables false
open Go.RowKit
def sumG (g : Bg → Int) (bs : List Bg) : Nat → Int
  | 0 => 0
  | k + 1 => sumG g bs k + g (ix bs k)
theorem sumG_app {g : Bg → Int} {bs cs : List Bg} : ∀ {k : Nat}, k ≤ bs.length → sumG g (bs ++ cs) k = sumG g bs k
  | 0, _ => rfl
  | k + 1, h => by
    rw [sumG, sumG, sumG_app (by omega)]
    congr 2
    unfold ix
    rw [List.getD_eq_getElem?_getD, List.getD_eq_getElem?_getD, Int.toNat_natCast, List.getElem?_append_left (by omega)]
theorem sumG_snoc {g : Bg → Int} {bs : List Bg} {b : Bg} : sumG g (bs ++ [b]) (bs ++ [b]).length = sumG g bs bs.length + g b := by
  rw [List.length_append]
  show sumG g (bs ++ [b]) (bs.length + 1) = _
  rw [sumG, sumG_app (Nat.le_refl _)]
  congr 1
  simp [ix]
theorem sumG_bd {g : Bg → Int} {bs : List Bg} {c : Int} : ∀ {k : Nat}, (∀ j : Nat, j < k → 0 ≤ g (ix bs j) ∧ g (ix bs j) ≤ c) → 0 ≤ sumG g bs k ∧ sumG g bs k ≤ c * k
  | 0, _ => by simp [sumG]
  | k + 1, h => by
    have h1 := sumG_bd (g := g) (bs := bs) (c := c) (k := k) fun j hj => h j (by omega)
    have h2 := h k (by omega)
    rw [sumG]
    have : c * ((k + 1 : Nat) : Int) = c * k + c := by rw [Int.natCast_add, Int.mul_add]; simp
    omega
structure BgOk (t : Tab) (fs : List Flw) (b : Bg) : Prop where
  f : 0 ≤ b.f ∧ b.f < fs.length
  n : 0 ≤ b.n ∧ b.n ≤ 500
  s : SvOk t (ix fs b.f) b.s
/-- What is summed up is what is kept. -/
structure BdQ (t : Tab) (fs : List Flw) (st : Bd) : Prop where
  m : sumG (fun b => b.n * (b.s.a - (ix fs b.f).M)) st.B st.B.length = st.M
  n : sumG (fun b => b.n) st.B st.B.length = st.N
  o : ∀ s : Int, 0 ≤ s → s < t.N.S.length → sumG (fun b => if (ix fs b.f).F = s then b.n else 0) st.B st.B.length = ix st.O s
  p : ∀ s : Int, 0 ≤ s → s < t.N.S.length → sumG (fun b => if (ix fs b.f).T = s then b.n else 0) st.B st.B.length = ix st.F s
  b : ∀ b ∈ st.B, BgOk t fs b
theorem bdQ_step {t : Tab} {fs : List Flw} {cap : Int} {i : Nat} {st : Bd} {s : Sv} {k : Int} (hv : tabB t = true) (hi : i < fs.length) (hf : flowB t.N.S.length (ix fs i) = true) (h : BdQ t fs st) (hok : BdOk t cap k st) (hs : SvOk t (ix fs i) s) : BdQ t fs (bdStep cap i (ix fs i) st s) := by
  have hn := bdN_bd hok hs hv
  have hp := hok.p
  rw [flowB_t] at hf
  have tot : ∀ g : Bg → Int, (g ⟨i, s, 0⟩ = 0) → sumG g (bdStep cap i (ix fs i) st s).B (bdStep cap i (ix fs i) st s).B.length = sumG g st.B st.B.length + g ⟨i, s, bdN cap st s⟩ := by
    intro g hg
    show sumG g (if bdN cap st s = 0 then st.B else st.B ++ [⟨i, s, bdN cap st s⟩]) (if bdN cap st s = 0 then st.B else st.B ++ [⟨i, s, bdN cap st s⟩]).length = _
    by_cases e : bdN cap st s = 0
    · rw [if_pos e, e, hg, Int.add_zero]
    · rw [if_neg e, sumG_snoc]
  refine ⟨?_, ?_, fun x h0 h1 => ?_, fun x h0 h1 => ?_, fun b hb => ?_⟩
  · rw [tot _ (by simp), h.m]; rfl
  · rw [tot _ rfl, h.n]; rfl
  · rw [tot _ (by simp), h.o x h0 h1]
    show _ = ix (st.O.set (ix fs i).F.toNat (ix st.O (ix fs i).F + bdN cap st s)) x
    by_cases e : (ix fs i).F = x
    · rw [if_pos e]
      subst e
      have := ix_set_same (l := st.O) (j := (ix fs i).F.toNat) (x := ix st.O (ix fs i).F + bdN cap st s) (by have := hok.o; omega)
      rw [show (((ix fs i).F.toNat : Nat) : Int) = (ix fs i).F by omega] at this
      exact this.symm
    · rw [if_neg e, ix_set_ne (by omega), Int.add_zero]
  · rw [tot _ (by simp), h.p x h0 h1]
    show _ = ix (st.F.set (ix fs i).T.toNat (ix st.F (ix fs i).T + bdN cap st s)) x
    by_cases e : (ix fs i).T = x
    · rw [if_pos e]
      subst e
      have := ix_set_same (l := st.F) (j := (ix fs i).T.toNat) (x := ix st.F (ix fs i).T + bdN cap st s) (by have := hok.f; omega)
      rw [show (((ix fs i).T.toNat : Nat) : Int) = (ix fs i).T by omega] at this
      exact this.symm
    · rw [if_neg e, ix_set_ne (by omega), Int.add_zero]
  · have hb' : b ∈ (if bdN cap st s = 0 then st.B else st.B ++ [⟨i, s, bdN cap st s⟩] : List Bg) := hb
    by_cases e : bdN cap st s = 0
    · rw [if_pos e] at hb'; exact h.b b hb'
    · rw [if_neg e] at hb'
      rcases List.mem_append.1 hb' with hb' | hb'
      · exact h.b b hb'
      · have : b = ⟨i, s, bdN cap st s⟩ := by simpa using hb'
        subst this
        exact ⟨⟨by show (0 : Int) ≤ i; omega, by show (i : Int) < _; omega⟩, ⟨hn.1, by show bdN cap st s ≤ 500; omega⟩, hs⟩
theorem bdQ_in {t : Tab} {fs : List Flw} {cap : Int} {i : Nat} {st : Bd} {k : Int} (hv : tabB t = true) (hi : i < fs.length) (hf : flowB t.N.S.length (ix fs i) = true) (h : BdQ t fs st) (hok : BdOk t cap k st) : ∀ {j : Nat}, j ≤ (svS t (ix fs i)).length → BdQ t fs (bdIn cap i (ix fs i) (svS t (ix fs i)) st j)
  | 0, _ => h
  | j + 1, hj => bdQ_step hv hi hf (bdQ_in hv hi hf h hok (j := j) (by omega)) (bdIn_ok hv hf hok (j := j) (by omega)) (svS_ok hv (k := (j : Int)) (by omega) (by omega))
theorem bdQ_O {t : Tab} {fs : List Flw} {cap : Int} (hv : tabB t = true) (hf : flowsB t fs = true) (hc : 0 ≤ cap) : ∀ {i : Nat}, i ≤ fs.length → BdQ t fs (bdO t fs cap i).1
  | 0, _ => ⟨rfl, rfl, fun s _ _ => (ix_rep (n := t.N.S.length) (p := s)).symm, fun s _ _ => (ix_rep (n := t.N.S.length) (p := s)).symm, fun b hb => by simp [bdO, bd0] at hb⟩
  | i + 1, hi => by
    have hfi := flowsB_at hf (i := (i : Int)) (by omega) (by omega)
    have hfi' := hfi
    rw [flowB_t] at hfi'
    have h0 := bdQ_O hv hf hc (i := i) (by omega)
    exact bdQ_in (st := bdP (bdO t fs cap i).1 (ix fs i).P) hv (by omega) hfi ⟨h0.m, h0.n, h0.o, h0.p, h0.b⟩ ((bdO_ok hv hf hc (i := i) (by omega)).put (p := (ix fs i).P) (by omega)) (Nat.le_refl _)
end Go.Proofs.Ytfnihicngoaejaa

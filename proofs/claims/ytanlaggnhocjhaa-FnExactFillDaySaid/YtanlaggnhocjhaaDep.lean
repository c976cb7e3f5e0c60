/- Depots: copied, counted, compared, checked. -/
import Derived.Test.YtanlaggnhocjhaaSS
import Derived.Test.YtanlaggnhocjhaaVals
namespace Go.Proofs.Ytanlaggnhocjhaa
set_option linter.unusedSimpArgs false
set_option linter.unusedVariables false
open Go.RowKit Go.ChangeShapes Go.WideShapes Go.ChangeAt Go.Deep
structure Dep where
  S : List Int
  T : List (List Int)
instance : Inhabited Dep := ⟨⟨[], []⟩⟩
def pDep (e1 e2 e3 : Option TypeId) : Phi Dep := pCat Dep.S (pS e1 pI) (pCat Dep.T (pS e2 (pS e3 pI)) pNil)
abbrev aDep := pDep none none none
abbrev bDep := pDep (some 3) (some 39) (some 3)
structure DepF (d : Dep) : Prop where
  s : d.S.length ≤ 1048576
  t : d.T.length ≤ 1048576
  a : ∀ z ∈ d.T, z.length ≤ 1048576
/-- The vehicles before a place. -/
def seen (d : Dep) (i k : Nat) : List Int := (d.T.take i).flatten ++ (ix d.T i).take k
theorem seen_step {d : Dep} {i k : Nat} (hk : (k : Int) < (ix d.T i).length) : seen d i (k + 1) = seen d i k ++ [ix (ix d.T i) k] := by
  have h := ix_get (xs := ix d.T i) (i := (k : Int)) (by omega) hk
  rw [Int.toNat_natCast] at h
  rw [seen, seen, List.take_add_one, h, List.append_assoc]
  rfl
theorem seen_next {d : Dep} {i k : Nat} (hi : (i : Int) < d.T.length) (hk : ((ix d.T i).length : Int) ≤ k) : seen d (i + 1) 0 = seen d i k := by
  have h := ix_get (xs := d.T) (i := (i : Int)) (by omega) hi
  rw [Int.toNat_natCast] at h
  rw [seen, seen, List.take_zero, List.append_nil, List.take_add_one, h, List.flatten_append, List.take_of_length_le (i := k) (l := ix d.T i) (by omega)]
  simp
theorem seen_len {d : Dep} {i k n : Nat} (h : ((seen d i 0).length : Int) ≤ n) (hk : k ≤ (ix d.T i).length) : ((seen d i k).length : Int) ≤ n + k := by
  rw [seen, List.take_zero, List.append_nil] at h
  rw [seen, List.length_append, List.length_take]
  omega
def vOk (d : Dep) (i k : Nat) : Bool := inB (ix (ix d.T i) k) 1 99 && !decide (ix (ix d.T i) k ∈ seen d i k)
def trOk (d : Dep) (i : Nat) : Bool := inB (ix d.S i) 0 8 && decide (((ix d.T i).length : Int) ≤ ix d.S i) && allN (ix d.T i).length (vOk d i)
def depB (d : Dep) : Bool := inB d.S.length 1 4 && decide ((d.T.length : Int) = d.S.length) && allN d.S.length (trOk d)
theorem vOk_f {d : Dep} {i k : Nat} (h : (ix (ix d.T i) k < 1 ∨ 99 < ix (ix d.T i) k) ∨ ix (ix d.T i) k ∈ seen d i k) : vOk d i k = false := by
  rcases h with h | h
  · rw [vOk, (inB_f _ _ _).mpr h]; rfl
  · rw [vOk, decide_eq_true h]; simp
theorem vOk_t {d : Dep} {i k : Nat} (h : 1 ≤ ix (ix d.T i) k ∧ ix (ix d.T i) k ≤ 99) (h2 : ¬ ix (ix d.T i) k ∈ seen d i k) : vOk d i k = true := by
  rw [vOk, (inB_t _ _ _).mpr h, decide_eq_false h2]; rfl
theorem trOk_f {d : Dep} {i : Nat} (h : (ix d.S i < 0 ∨ 8 < ix d.S i) ∨ ix d.S i < ((ix d.T i).length : Int)) : trOk d i = false := by
  rcases h with h | h
  · rw [trOk, (inB_f _ _ _).mpr h]; rfl
  · rw [trOk, decide_eq_false (by omega), Bool.and_false]; rfl
theorem trOk_f2 {d : Dep} {i k : Nat} (hk : k < (ix d.T i).length) (h : vOk d i k = false) : trOk d i = false := by rw [trOk, allN_f hk h, Bool.and_false]
theorem trOk_t {d : Dep} {i k : Nat} (h1 : 0 ≤ ix d.S i ∧ ix d.S i ≤ 8) (h2 : ((ix d.T i).length : Int) ≤ ix d.S i) (hk : (ix d.T i).length ≤ k) (h : ∀ j, j < k → vOk d i j = true) : trOk d i = true := by
  rw [trOk, (inB_t _ _ _).mpr h1, decide_eq_true h2, allN_y hk h]; rfl
theorem depB_f1 {d : Dep} (h : ((d.S.length : Int) < 1 ∨ 4 < (d.S.length : Int)) ∨ ¬ (d.T.length : Int) = d.S.length) : depB d = false := by
  rcases h with h | h
  · rw [depB, (inB_f _ _ _).mpr h]; rfl
  · rw [depB, decide_eq_false h, Bool.and_false]; rfl
theorem depB_f2 {d : Dep} {i : Nat} (hi : i < d.S.length) (h : trOk d i = false) : depB d = false := by rw [depB, allN_f hi h, Bool.and_false]
theorem depB_y {d : Dep} {i : Nat} (h1 : 1 ≤ (d.S.length : Int) ∧ (d.S.length : Int) ≤ 4) (h2 : (d.T.length : Int) = d.S.length) (hi : d.S.length ≤ i) (h : ∀ j, j < i → trOk d j = true) : depB d = true := by
  rw [depB, (inB_t _ _ _).mpr h1, decide_eq_true h2, allN_y hi h]; rfl
theorem isS_open {α : Type} [Inhabited α] {e e2 : Option TypeId} {Φ : Phi α} {xs : List (List α)} {v : Value} {w : World} (h : IsS e (pS e2 Φ) xs v w) (hne : 0 < (xs.length : Int)) :
    ∃ b o c, ∃ us : Nat → Value, v = .slice (some ⟨b, o, none⟩) xs.length c ∧ ∀ i : Nat, (i : Int) < xs.length → w.cell? ⟨b, o + i * 1, none⟩ = some (us i) ∧ IsS e2 Φ (ix xs i) (us i) w := by
  obtain ⟨A, n, c, rfl, rfl, hnc, hc, hall⟩ := h
  have key : ∀ i : Nat, ∃ u, (i : Int) < xs.length → ∃ b o, A = some ⟨b, o, none⟩ ∧ w.cell? ⟨b, o + i * 1, none⟩ = some u ∧ IsS e2 Φ (ix xs i) u w := fun i => by
    by_cases hi : (i : Int) < xs.length
    · obtain ⟨b, o, cs, hA, hcell, ⟨u, rfl, hu⟩, _⟩ := hall i _ (by have := ix_get (xs := xs) (i := (i : Int)) (by omega) hi; rwa [Int.toNat_natCast] at this)
      exact ⟨u, fun _ => ⟨b, o, hA, hcell 0 u rfl, hu⟩⟩
    · exact ⟨undef, fun h => absurd h hi⟩
  obtain ⟨us, hus⟩ := Classical.axiomOfChoice key
  obtain ⟨b, o, hA, _⟩ := hus 0 hne
  refine ⟨b, o, c, us, by rw [hA], fun i hi => ?_⟩
  obtain ⟨b', o', hA', h1, h2⟩ := hus i hi
  rw [hA] at hA'
  injection hA' with hA'
  injection hA' with hb ho
  subst hb ho
  exact ⟨h1, h2⟩
theorem depP_open {d : Dep} {v : Value} {w : World} (h : IsP bDep d v w) : ∃ b o vS vT, v = .pointer (some ⟨b, o, none⟩) ∧ w.cell? ⟨b, o + 0, none⟩ = some vS ∧ w.cell? ⟨b, o + 1, none⟩ = some vT ∧ IsS (some 3) pI d.S vS w ∧ IsS (some 39) (pS (some 3) pI) d.T vT w := by
  obtain ⟨b, o, cs, rfl, hc, c1, c2, rfl, ⟨vS, rfl, h1⟩, c3, c4, rfl, ⟨vT, rfl, h2⟩, h3⟩ := h
  exact ⟨b, o, vS, vT, rfl, hc 0 vS rfl, hc 1 vT rfl, h1, h2⟩
/-- The array of the vehicles seen. -/
def bits (S : List Int) : List Value := (List.range 100).map fun v : Nat => .bool (decide ((v : Int) ∈ S))
theorem bits_nil : bits [] = List.replicate 100 (.bool false) := by simp [bits, List.map_const']
theorem bits_get {S : List Int} {v : Int} (h : 1 ≤ v ∧ v ≤ 99) : (bits S)[0 + v.toNat * 1]? = some (.bool (decide (v ∈ S))) := by
  rw [bits, List.getElem?_map, List.getElem?_range (by omega), Option.map_some, show ((0 + v.toNat * 1 : Nat) : Int) = v by omega]
theorem bits_put {S : List Int} {v : Int} (h : 1 ≤ v ∧ v ≤ 99) : putL (bits S) (0 + v.toNat * 1) [.bool true] = bits (S ++ [v]) := by
  have hlen : ∀ T, (bits T).length = 100 := fun T => by simp [bits]
  apply List.ext_getElem?
  intro j
  by_cases hj : j < 100
  · have hr : (bits (S ++ [v]))[j]? = some (.bool (decide ((j : Int) ∈ S ++ [v]))) := by rw [bits, List.getElem?_map, List.getElem?_range hj, Option.map_some]
    have hl : (bits S)[j]? = some (.bool (decide ((j : Int) ∈ S))) := by rw [bits, List.getElem?_map, List.getElem?_range hj, Option.map_some]
    rw [hr]
    by_cases e : j = v.toNat
    · subst e
      have := putL_in (cs := bits S) (o := 0 + v.toNat * 1) (vs := [Value.bool true]) (j := 0) (u := .bool true) (by rw [hlen]; simp; omega) rfl
      rw [show 0 + v.toNat * 1 + 0 = v.toNat by omega] at this
      rw [this, decide_eq_true (by simp; right; omega)]
    · rw [putL_out (by rw [hlen]; simp; omega) (by simp; omega), hl]
      simp only [List.mem_append, List.mem_singleton]
      congr 3
      exact propext ⟨Or.inl, fun h => h.resolve_right (by omega)⟩
  · rw [List.getElem?_eq_none (by rw [putL_length (by rw [hlen]; simp; omega), hlen]; omega), List.getElem?_eq_none (by rw [hlen]; omega)]
theorem bits_len (S : List Int) : (bits S).length = 100 := by simp [bits]
attribute [local irreducible] bits
end Go.Proofs.Ytanlaggnhocjhaa

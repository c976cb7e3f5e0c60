/- Depots: no vehicle twice; what that says of taking and parking; in plain terms. -/
import Derived.Test.YtanlaggnhocjhaaDpu
namespace Go.Proofs.Ytanlaggnhocjhaa
set_option linter.unusedSimpArgs false
set_option linter.unusedVariables false
open Go.RowKit Go.ChangeShapes Go.WideShapes Go.ChangeAt Go.Deep
theorem flat_at {T : List (List Int)} {i : Nat} (hi : i < T.length) : T.flatten = (T.take i).flatten ++ (ix T i ++ (T.drop (i + 1)).flatten) := by
  have h : T = T.take i ++ (T[i] :: T.drop (i + 1)) := by rw [← List.drop_eq_getElem_cons hi, List.take_append_drop]
  rw [ix_elem hi]
  conv => lhs; rw [h]
  rw [List.flatten_append, List.flatten_cons]
theorem flat_set {T : List (List Int)} {i : Nat} {x : List Int} (hi : i < T.length) : (T.set i x).flatten = (T.take i).flatten ++ (x ++ (T.drop (i + 1)).flatten) := by
  rw [flat_at (T := T.set i x) (i := i) (by rw [List.length_set]; exact hi), ix_elem (by rw [List.length_set]; exact hi), List.getElem_set_self, List.take_set_of_le (Nat.le_refl i), List.drop_set_of_lt (Nat.lt_succ_self i)]
theorem plI_flat {T : List (List Int)} {v : Int} : 0 ≤ plI T v ↔ v ∈ T.flatten := by
  constructor
  · intro h
    have h1 := plI_in h
    have h2 := plI_bd (T := T) (v := v)
    rw [List.mem_flatten]
    refine ⟨_, ?_, h1⟩
    exact mem_ix (by omega) (by omega)
  · intro h
    obtain ⟨l, hl, hv⟩ := List.mem_flatten.1 h
    obtain ⟨j, hj, e⟩ := List.mem_iff_getElem.1 hl
    exact (firstI_le (q := fun i : Nat => decide (v ∈ ix T i)) (i := j) (decide_eq_true (by rw [ix_elem hj, e]; exact hv)) hj).1
theorem row_last {l : List Int} {v : Int} (h : fndI l v = (l.length : Int) - 1) (h0 : 0 ≤ fndI l v) : l = l.take (fndI l v).toNat ++ [v] := by
  have h1 : ix l (((fndI l v).toNat : Nat) : Int) = v := of_decide_eq_true (firstI_val (q := fun j : Nat => decide (ix l j = v)) (n := l.length) h0)
  have hk : (fndI l v).toNat < l.length := by omega
  conv => lhs; rw [← List.take_append_drop (fndI l v).toNat l]
  congr 1
  rw [List.drop_eq_getElem_cons hk, ← ix_elem hk, h1, List.drop_of_length_le (by omega)]
theorem tkT_perm {T : List (List Int)} {v : Int} (h : tkB T v = true) : T.flatten.Perm (v :: (tkT T v).flatten) := by
  have h1 := tkB_t h
  have h2 := plI_bd (T := T) (v := v)
  have hi : (plI T v).toNat < T.length := by omega
  have e : (((plI T v).toNat : Nat) : Int) = plI T v := by omega
  have h3 : plK T v = fndI (ix T (plI T v)) v := rfl
  have hr := row_last (l := ix T (plI T v)) (v := v) (by rw [← h3]; exact h1.2) (by rw [← h3]; exact (plK_bd h1.1).1)
  rw [← h3] at hr
  rw [tkT, flat_set hi, flat_at hi, e]
  conv => lhs; rw [hr]
  rw [List.append_assoc]
  refine (List.Perm.append_left _ ?_).trans (List.perm_middle (a := v) (l₁ := (T.take (plI T v).toNat).flatten))
  exact (List.perm_middle (l₁ := (ix T (plI T v)).take (plK T v).toNat))
theorem pkT_perm {T : List (List Int)} {v tr : Int} (h0 : 0 ≤ tr) (h1 : tr < T.length) : (pkT T v tr).flatten.Perm (v :: T.flatten) := by
  have hi : tr.toNat < T.length := by omega
  have e : ((tr.toNat : Nat) : Int) = tr := by omega
  rw [pkT, flat_set hi, flat_at hi, e, List.append_assoc]
  refine (List.Perm.append_left _ ?_).trans (List.perm_middle (a := v) (l₁ := (T.take tr.toNat).flatten))
  exact List.perm_middle (l₁ := ix T tr)
structure DvN (d : Dep) : Prop where
  nd : d.T.flatten.Nodup
  rg : ∀ x ∈ d.T.flatten, 1 ≤ x ∧ x ≤ 99
theorem vOk_of {d : Dep} (h : depB d = true) {i k : Nat} (hi : i < d.T.length) (hk : k < (ix d.T i).length) : vOk d i k = true := by
  simp only [depB, Bool.and_eq_true, inB_t, decide_eq_true_eq] at h
  have := allN_t.1 h.2 i (by omega)
  simp only [trOk, Bool.and_eq_true] at this
  exact allN_t.1 this.2 k hk
theorem DvN.of {d : Dep} (h : depB d = true) : DvN d := by
  have key : ∀ i, i ≤ d.T.length → (seen d i 0).Nodup ∧ ∀ x ∈ seen d i 0, 1 ≤ x ∧ x ≤ 99 := by
    intro i
    induction i with
    | zero => intro _; simp [seen]
    | succ i ih =>
      intro hi
      have inner : ∀ k, k ≤ (ix d.T i).length → (seen d i k).Nodup ∧ ∀ x ∈ seen d i k, 1 ≤ x ∧ x ≤ 99 := by
        intro k
        induction k with
        | zero => intro _; exact ih (by omega)
        | succ k ihk =>
          intro hk
          obtain ⟨h1, h2⟩ := ihk (by omega)
          have hv := vOk_of h (i := i) (k := k) (by omega) (by omega)
          simp only [vOk, Bool.and_eq_true, inB_t, Bool.not_eq_true', decide_eq_false_iff_not] at hv
          rw [seen_step (by omega)]
          refine ⟨List.nodup_append.2 ⟨h1, by simp, fun x hx y hy e => ?_⟩, fun x hx => ?_⟩
          · simp only [List.mem_singleton] at hy
            subst hy
            exact hv.2 (e ▸ hx)
          · rcases List.mem_append.1 hx with hx | hx
            · exact h2 x hx
            · simp only [List.mem_singleton] at hx
              subst hx
              exact hv.1
      rw [seen_next (k := (ix d.T i).length) (by omega) (by omega)]
      exact inner _ (Nat.le_refl _)
  have hk := key d.T.length (Nat.le_refl _)
  have e : seen d d.T.length 0 = d.T.flatten := by simp [seen]
  rw [e] at hk
  exact ⟨hk.1, hk.2⟩
theorem DvN.tk {d : Dep} {v : Int} (h : DvN d) (ht : tkB d.T v = true) : DvN ⟨d.S, tkT d.T v⟩ ∧ plI (tkT d.T v) v < 0 := by
  have hp := tkT_perm ht
  have h1 := (hp.nodup_iff).1 h.nd
  obtain ⟨h2, h3⟩ := List.nodup_cons.1 h1
  refine ⟨⟨h3, fun x hx => h.rg x ((hp.mem_iff).2 (List.mem_cons_of_mem _ hx))⟩, ?_⟩
  have : ¬ 0 ≤ plI (tkT d.T v) v := fun h0 => h2 (plI_flat.1 h0)
  omega
theorem DvN.pk {d : Dep} {v tr : Int} (h : DvN d) (hp : pkB d v tr = true) : DvN ⟨d.S, pkT d.T v tr⟩ := by
  have h1 := pkB_t hp
  have hq := pkT_perm (T := d.T) (v := v) h1.1.1 h1.1.2.1
  have hn : ¬ v ∈ d.T.flatten := fun hm => by have := plI_flat.2 hm; omega
  refine ⟨(hq.nodup_iff).2 (List.nodup_cons.2 ⟨hn, h.nd⟩), fun x hx => ?_⟩
  rcases List.mem_cons.1 ((hq.mem_iff).1 hx) with rfl | hx
  · exact h1.2.1
  · exact h.rg x hx
theorem tk_mem {T : List (List Int)} {v x : Int} (h : tkB T v = true) (hx : x ≠ v) : 0 ≤ plI (tkT T v) x ↔ 0 ≤ plI T x := by
  rw [plI_flat, plI_flat, (tkT_perm h).mem_iff, List.mem_cons]
  exact ⟨Or.inr, fun h => h.resolve_left hx⟩
end Go.Proofs.Ytanlaggnhocjhaa

/- Taking and parking in a depot of one's own: the program's side. -/
import Derived.Test.YtbipnenkgkebjaaDpo
import Derived.Test.YtbipnenkgkebjaaDra
namespace Go.Proofs.Ytbipnenkgkebjaa
set_option linter.unusedSimpArgs false
set_option linter.unusedVariables false
open Go.RowKit Go.ChangeShapes Go.WideShapes Go.ChangeAt Go.Deep
theorem rowsZ_len : ∀ {ls : List (List Int)} {vs : List Value}, vs.length = ls.length → (rowsZ ls vs).length = ls.length
  | [], [], _ => rfl
  | _ :: ls, _ :: vs, h => by simp [rowsZ, rowsZ_len (ls := ls) (vs := vs) (by simpa using h)]
  | [], _ :: _, h => by simp at h
  | _ :: _, [], h => by simp at h
theorem rowsZ_set2 : ∀ {ls : List (List Int)} {vs : List Value} {i : Nat} {l : List Int} {u : Value}, vs.length = ls.length → (rowsZ ls vs).set i (.sl Int 3 pI l u) = rowsZ (ls.set i l) (vs.set i u)
  | l0 :: ls, v :: vs, 0, l, u, _ => rfl
  | l0 :: ls, v :: vs, i + 1, l, u, h => by
    simp only [rowsZ, List.set_cons_succ]
    rw [rowsZ_set2 (by simpa using h)]
  | [], [], _, _, _, _ => rfl
  | [], _ :: _, _, _, _, h => by simp at h
  | _ :: _, [], _, _, _, h => by simp at h
section
variable {d : Dep} {vS vT : Value} {vs : List Value} {L0 : List Osl}
theorem dpL_rowI {i : Int} (hl : vs.length = d.T.length) (hi : 0 ≤ i ∧ i < (d.T.length : Int)) : (dpL d vS vT vs ++ L0)[i.toNat + 2]? = some (.sl Int 3 pI (ix d.T i) (ix vs i)) := by
  have h := dpL_row (vS := vS) (vT := vT) (L0 := L0) (i := i.toNat) hl (by omega)
  rw [show ((i.toNat : Nat) : Int) = i by omega] at h
  exact h
theorem dpL_set {i : Int} {l : List Int} {u : Value} (hl : vs.length = d.T.length) (hi : 0 ≤ i ∧ i < (d.T.length : Int)) : ((dpL d vS vT vs ++ L0).set 1 (.sl Value 22 pV (vs.set i.toNat u) vT)).set (i.toNat + 2) (.sl Int 3 pI l u) = dpL ⟨d.S, d.T.set i.toNat l⟩ vS vT (vs.set i.toNat u) ++ L0 := by
  simp only [dpL, List.cons_append, List.set_cons_succ, List.set_cons_zero]
  rw [List.set_append_left _ _ (by rw [rowsZ_len hl]; omega), rowsZ_set2 hl]
theorem dpL_set' {i : Int} {l : List Int} {u : Value} (hl : vs.length = d.T.length) (hi : 0 ≤ i ∧ i < (d.T.length : Int)) : ((dpL d vS vT vs ++ L0).set (i.toNat + 2) (.sl Int 3 pI l u)).set 1 (.sl Value 22 pV (vs.set i.toNat u) vT) = dpL ⟨d.S, d.T.set i.toNat l⟩ vS vT (vs.set i.toNat u) ++ L0 := by
  rw [List.set_comm _ _ (by omega)]
  exact dpL_set hl hi
end
def tkD (d : Dep) (v : Int) : Dep := if tkB d.T v then ⟨d.S, tkT d.T v⟩ else d
def pkD (d : Dep) (v tr : Int) : Dep := if pkB d v tr then ⟨d.S, pkT d.T v tr⟩ else d
theorem tkD_y {d : Dep} {v : Int} (h : tkB d.T v = true) : tkD d v = ⟨d.S, tkT d.T v⟩ := if_pos h
theorem tkD_n {d : Dep} {v : Int} (h : tkB d.T v = false) : tkD d v = d := by rw [tkD, h]; rfl
theorem pkD_y {d : Dep} {v tr : Int} (h : pkB d v tr = true) : pkD d v tr = ⟨d.S, pkT d.T v tr⟩ := if_pos h
theorem pkD_n {d : Dep} {v tr : Int} (h : pkB d v tr = false) : pkD d v tr = d := by rw [pkD, h]; rfl
theorem tkD_l {d : Dep} {v : Int} : (tkD d v).T.length = d.T.length := by
  unfold tkD
  split
  · simp [tkT]
  · rfl
theorem pkD_l {d : Dep} {v tr : Int} : (pkD d v tr).T.length = d.T.length := by
  unfold pkD
  split
  · simp [pkT]
  · rfl
theorem DvI.tkD {d : Dep} {v : Int} (h : DvI d) : DvI (Go.Proofs.Ytbipnenkgkebjaa.tkD d v) := by
  cases ht : tkB d.T v
  · rw [tkD_n ht]; exact h
  · rw [tkD_y ht]; exact h.tk ht
theorem DvI.pkD {d : Dep} {v tr : Int} (h : DvI d) : DvI (Go.Proofs.Ytbipnenkgkebjaa.pkD d v tr) := by
  cases ht : pkB d v tr
  · rw [pkD_n ht]; exact h
  · rw [pkD_y ht]; exact h.pk ht
theorem DvI.f {d : Dep} (h : DvI d) : DepF d := by
  obtain ⟨h1, h2, h3⟩ := h
  refine ⟨by omega, by omega, fun z hz => ?_⟩
  obtain ⟨j, hj, e⟩ := List.mem_iff_getElem.1 hz
  have := h3 j (by omega)
  rw [ix_elem hj, e] at this
  omega
theorem DvI.row' {d : Dep} (h : DvI d) {i : Int} (hi : 0 ≤ i ∧ i < (d.T.length : Int)) : ((ix d.T i).length : Int) ≤ 8 := by
  have h1 := h.l
  have := h.s i.toNat (by omega)
  rw [show ((i.toNat : Nat) : Int) = i by omega] at this
  omega
theorem Sq_subE {P : Program} {ops : Array Oper} {Q : Exit → Act → World → Prop} {N : Nat} {K : List (Nat × Pr)} {w0 : World} {L : List Osl} (m : Nat) {e : TypeId} {xs : List Int} {v : Value} {l : List Oper} (hm : L[m]? = some (.sl Int e pI xs v)) (hp : 0 < (xs.length : Int)) (h : (∀ lo n, (subV v lo n).oneCell' = true) → Sq P ops N (Sep w0 L) Q K l) : Sq P ops N (Sep w0 L) Q K l := by
  unfold Sq at h ⊢
  intro a w hst
  obtain ⟨b, c, cs, rfl, _⟩ := hst.cls.slc hm hp
  exact h (fun lo n => rfl) a w hst
theorem drop_mid {w0 w : World} {L1 L2 : List Osl} {o : Osl} (h : Sep w0 (L1 ++ o :: L2) w) : Sep w0 (L1 ++ L2) w := (h.perm List.perm_middle).drop
theorem cx_take {w0 : World} {L0 : List Osl} (d : Dep) (v : Int) (vS vT : Value) (vs : List Value) (hl : vs.length = d.T.length) (hd : DvI d) (ha : avAll L0 22) :
    CTX Try.prog 50 (Sep w0 (dpL d vS vT vs ++ L0)) [.inl (.agg (([vS, vT] : List Value)).toArray), .inl (.int .i64 v)] (fun (vs' : List Value) w' => Sep w0 (dpL (tkD d v) vS vT vs' ++ L0) w' ∧ vs'.length = d.T.length) (fun _ => .inl (.bool (tkB d.T v))) := by
  have hb := plI_bd (T := d.T) (v := v)
  have hft := hd.f.t
  have hpl := ct_placeIn (e1 := some 22) (e2 := some 3) d.T v hft
  refine CTX_of Try.func50 rfl rfl rfl ?_
  have hC : UpC (Sep w0 (dpL d vS vT vs ++ L0)) := upC_sep
  by_cases hp : plI d.T v < 0
  · rw [if_pos hp] at hpl
    try any_goals (first | (refine H_seq ?_; try refine H_reg ?_) | refine H_reg ?_)
    try any_goals (refine Sq_boxS (d := 2) rfl rfl (fun g2 => ?_); refine Sq_weaken (C' := Sep w0 (dpL d vS vT vs ++ .raw 29 g2 [vS, vT] :: L0)) (fun w' h => h.perm List.perm_middle.symm) ?_)
    try any_goals (refine W_assign (d := 4) (sq_stepper upC_sep) rfl rfl rfl ?_)
    try any_goals (first | (refine Sq_nil ?_; try refine G_then ?_) | refine G_then ?_)
    try any_goals (first | (refine H_seq ?_; try refine H_reg ?_) | refine H_reg ?_)
    try any_goals (first | refine W_fieldG (d := 8) (sq_stepper upC_sep) (Proj.tail _ _ (Proj.head _ _ _)) (by kernel_rfl) rfl rfl rfl ?_ | refine W_fieldC (d := 8) (sq_stepper upC_sep) (off := 1) (by kernel_rfl) rfl rfl rfl ?_)
    try any_goals (refine W_loadRaw (d := 9) (dpL d vS vT vs).length (sq_stepper upC_sep) get_mid (by kernel_rfl) rfl rfl rfl rfl ?_; refine Sq_recall 9 (U := uS (some 22) (pS (some 3) pI) d.T) (fun w' h => h.depT hl) rfl ?_)
    try any_goals (refine W_move (d := 10) (sq_stepper upC_sep) rfl rfl rfl ?_)
    try any_goals (refine W_ct (d := 11) (sq_stepper upC_sep) (hpl) rfl rfl rfl (by kernel_rfl) ?_)
    try any_goals (refine W_move (d := 7) (sq_stepper upC_sep) rfl rfl rfl ?_)
    try any_goals (refine W_extract (d := 12) (sq_stepper upC_sep) rfl rfl rfl rfl ?_)
    try any_goals (refine W_extract (d := 13) (sq_stepper upC_sep) rfl rfl rfl rfl ?_)
    try any_goals (refine W_assign (d := 5) (sq_stepper upC_sep) rfl rfl rfl ?_)
    try any_goals (refine W_assign (d := 6) (sq_stepper upC_sep) rfl rfl rfl ?_)
    try any_goals (first | (refine Sq_nil ?_; try refine G_then ?_) | refine G_then ?_)
    try any_goals (refine H_seq ?_)
    try any_goals (first | (refine H_seq ?_; try refine H_reg ?_) | refine H_reg ?_)
    try any_goals (refine W_move (d := 14) (sq_stepper upC_sep) rfl rfl rfl ?_)
    try any_goals (first | refine W_cmp (d := 15) (sq_stepper upC_sep) rfl rfl rfl rfl rfl ?_ | refine W_strcmp (d := 15) (sq_stepper upC_sep) rfl rfl rfl rfl rfl ?_)
    try any_goals (refine W_move (d := 16) (sq_stepper upC_sep) rfl rfl rfl ?_)
    try any_goals (first | refine W_gT (d := 17) (sq_stepper upC_sep) _ rfl rfl ?_ | refine W_gF (d := 17) (sq_stepper upC_sep) _ rfl rfl ?_ | (refine W_splitG (sq_stepper upC_sep) _ rfl _ rfl (fun hq => ?_) (fun hq => ?_) <;> ((try simp only [hqs, reduceCtorEq] at hq); try (have hq' := hq; clear hq))))
    try any_goals (first | refine W_skip (d := 17) (sq_stepper upC_sep) rfl rfl ?_ | refine W_move (d := 17) (sq_stepper upC_sep) rfl rfl rfl ?_)
    try any_goals (first | refine W_skip (d := 18) (sq_stepper upC_sep) rfl rfl ?_ | refine W_fieldG (d := 18) (sq_stepper upC_sep) (Proj.tail _ _ (Proj.head _ _ _)) (by kernel_rfl) rfl rfl rfl ?_ | refine W_fieldC (d := 18) (sq_stepper upC_sep) (off := 1) (by kernel_rfl) rfl rfl rfl ?_)
    try any_goals (first | refine W_skip (d := 19) (sq_stepper upC_sep) rfl rfl ?_ | refine W_loadS (d := 19) (sq_stepper upC_sep) (by kernel_rfl) rfl rfl rfl ?_)
    try any_goals (first | refine W_skip (d := 20) (sq_stepper upC_sep) rfl rfl ?_ | refine W_move (d := 20) (sq_stepper upC_sep) rfl rfl rfl ?_)
    try any_goals (first | refine W_skip (d := 21) (sq_stepper upC_sep) rfl rfl ?_ | refine W_index (d := 21) (sq_stepper upC_sep) (by kernel_rfl) rfl rfl rfl rfl (by first | omega | (dsimp only; omega)) ?_)
    try any_goals (first | refine W_skip (d := 22) (sq_stepper upC_sep) rfl rfl ?_ | refine W_loadS (d := 22) (sq_stepper upC_sep) (by kernel_rfl) rfl rfl rfl ?_)
    try any_goals (first | refine W_skip (d := 23) (sq_stepper upC_sep) rfl rfl ?_ | refine W_len (d := 23) (sq_stepper upC_sep) (by kernel_rfl) rfl rfl rfl ?_ | refine W_lenStr (d := 23) (sq_stepper upC_sep) (by kernel_rfl) rfl rfl rfl ?_)
    try any_goals (first | refine W_skip (d := 24) (sq_stepper upC_sep) rfl rfl ?_ | refine W_ar (d := 24) (sq_stepper upC_sep) rfl rfl rfl rfl rfl (by first | omega | (dsimp only; omega)) ?_)
    try any_goals (first | refine W_skip (d := 25) (sq_stepper upC_sep) rfl rfl ?_ | refine W_cmp (d := 25) (sq_stepper upC_sep) rfl rfl rfl rfl rfl ?_ | refine W_neqStr (d := 25) (sq_stepper upC_sep) rfl rfl rfl rfl ?_ | refine W_neqB (d := 25) (sq_stepper upC_sep) rfl rfl Try.underlying4 rfl rfl ?_)
    try any_goals (first | refine W_pickT (d := 26) (sq_stepper upC_sep) rfl rfl rfl rfl ?_ | refine W_pickF (d := 26) (sq_stepper upC_sep) rfl rfl rfl rfl ?_)
    try any_goals (first | (refine Sq_nil ?_; try refine G_then ?_) | refine G_then ?_)
    try any_goals (first | refine H_condT rfl ?_ | refine H_condF rfl ?_ | (refine H_cond _ rfl (fun hq => ?_) (fun hq => ?_) <;> (try simp only [hqs, reduceCtorEq] at hq)))
    try any_goals (first | ((exfalso; omega)) | skip)
    try any_goals (first | (refine H_seq ?_; try refine H_reg ?_) | refine H_reg ?_)
    try any_goals (refine W_assign (d := 4) (sq_stepper upC_sep) rfl rfl rfl ?_)
    try any_goals (first | (refine Sq_nil ?_; try refine G_then ?_) | refine G_then ?_)
    try any_goals (refine H_ret ?_)
    repeat (any_goals (first | refine G_ret_then ?_ | refine G_ret_block ?_))
    try any_goals (refine H_skip ?_)
    try any_goals (refine G_then ?_)
    try any_goals (refine H_seq ?_)
    try any_goals (refine H_draw' (by kernel_rfl) upC_sep ?_)
    try any_goals (first | refine W_fieldG (d := 27) wk_stepper (Proj.tail _ _ (Proj.head _ _ _)) (by kernel_rfl) rfl rfl rfl ?_ | refine W_fieldC (d := 27) wk_stepper (off := 1) (by kernel_rfl) rfl rfl rfl ?_)
    try any_goals (refine W_loadS (d := 28) wk_stepper (by kernel_rfl) rfl rfl rfl ?_)
    try any_goals (refine W_move (d := 29) wk_stepper rfl rfl rfl ?_)
    try any_goals (first | refine W_fieldG (d := 30) wk_stepper (Proj.tail _ _ (Proj.head _ _ _)) (by kernel_rfl) rfl rfl rfl ?_ | refine W_fieldC (d := 30) wk_stepper (off := 1) (by kernel_rfl) rfl rfl rfl ?_)
    try any_goals (refine W_loadS (d := 31) wk_stepper (by kernel_rfl) rfl rfl rfl ?_)
    try any_goals (refine W_move (d := 32) wk_stepper rfl rfl rfl ?_)
    try any_goals (refine W_index (d := 33) wk_stepper (by kernel_rfl) rfl rfl rfl rfl (by first | omega | (dsimp only; omega)) ?_)
    try any_goals (refine W_loadS (d := 34) wk_stepper (by kernel_rfl) rfl rfl rfl ?_)
    try any_goals (refine W_move (d := 35) wk_stepper rfl rfl rfl ?_)
    try any_goals (refine W_slice (d := 36) wk_stepper (by kernel_rfl) rfl rfl rfl rfl rfl (by first | omega | (dsimp only; omega)) ?_)
    try any_goals (refine W_index (d := 37) wk_stepper (by kernel_rfl) rfl rfl rfl rfl (by first | omega | (dsimp only; omega)) ?_)
    try any_goals (refine Wk_none (by kernel_rfl) (by kernel_rfl) ?_)
    try any_goals (fail)
    try any_goals (first | (refine Sq_nil ?_; try refine G_then ?_) | refine G_then ?_)
    try any_goals (first | (refine H_seq ?_; try refine H_reg ?_) | refine H_reg ?_)
    try any_goals (refine W_assign (d := 4) (sq_stepper upC_sep) rfl rfl rfl ?_)
    try any_goals (first | (refine Sq_nil ?_; try refine G_then ?_) | refine G_then ?_)
    try any_goals (refine H_ret ?_)
    repeat (any_goals (first | refine G_ret_then ?_ | refine G_ret_block ?_))
    all_goals first
      | exact RX1 rfl rfl (fun v w' hc hv => ⟨vs, ⟨by rw [tkD_n (tkB_n (by omega))]; exact drop_mid hc, hl⟩, by rw [tkB_n (by omega)]; exact hv⟩)
      | trace_state
  · rw [if_neg hp] at hpl
    have hk := plK_bd (T := d.T) (v := v) (by omega)
    have hi : 0 ≤ plI d.T v ∧ plI d.T v < (d.T.length : Int) := ⟨by omega, hb.2⟩
    have hrb := hd.row' hi
    try any_goals (first | (refine H_seq ?_; try refine H_reg ?_) | refine H_reg ?_)
    try any_goals (refine Sq_boxS (d := 2) rfl rfl (fun g2 => ?_); refine Sq_weaken (C' := Sep w0 (dpL d vS vT vs ++ .raw 29 g2 [vS, vT] :: L0)) (fun w' h => h.perm List.perm_middle.symm) ?_)
    try any_goals (refine W_assign (d := 4) (sq_stepper upC_sep) rfl rfl rfl ?_)
    try any_goals (first | (refine Sq_nil ?_; try refine G_then ?_) | refine G_then ?_)
    try any_goals (first | (refine H_seq ?_; try refine H_reg ?_) | refine H_reg ?_)
    try any_goals (first | refine W_fieldG (d := 8) (sq_stepper upC_sep) (Proj.tail _ _ (Proj.head _ _ _)) (by kernel_rfl) rfl rfl rfl ?_ | refine W_fieldC (d := 8) (sq_stepper upC_sep) (off := 1) (by kernel_rfl) rfl rfl rfl ?_)
    try any_goals (refine W_loadRaw (d := 9) (dpL d vS vT vs).length (sq_stepper upC_sep) get_mid (by kernel_rfl) rfl rfl rfl rfl ?_; refine Sq_recall 9 (U := uS (some 22) (pS (some 3) pI) d.T) (fun w' h => h.depT hl) rfl ?_)
    try any_goals (refine W_move (d := 10) (sq_stepper upC_sep) rfl rfl rfl ?_)
    try any_goals (refine W_ct (d := 11) (sq_stepper upC_sep) (hpl) rfl rfl rfl (by kernel_rfl) ?_)
    try any_goals (refine W_move (d := 7) (sq_stepper upC_sep) rfl rfl rfl ?_)
    try any_goals (refine W_extract (d := 12) (sq_stepper upC_sep) rfl rfl rfl rfl ?_)
    try any_goals (refine W_extract (d := 13) (sq_stepper upC_sep) rfl rfl rfl rfl ?_)
    try any_goals (refine W_assign (d := 5) (sq_stepper upC_sep) rfl rfl rfl ?_)
    try any_goals (refine W_assign (d := 6) (sq_stepper upC_sep) rfl rfl rfl ?_)
    try any_goals (first | (refine Sq_nil ?_; try refine G_then ?_) | refine G_then ?_)
    try any_goals (refine H_seq ?_)
    try any_goals (first | (refine H_seq ?_; try refine H_reg ?_) | refine H_reg ?_)
    try any_goals (refine W_move (d := 14) (sq_stepper upC_sep) rfl rfl rfl ?_)
    try any_goals (first | refine W_cmp (d := 15) (sq_stepper upC_sep) rfl rfl rfl rfl rfl ?_ | refine W_strcmp (d := 15) (sq_stepper upC_sep) rfl rfl rfl rfl rfl ?_)
    try any_goals (refine W_move (d := 16) (sq_stepper upC_sep) rfl rfl rfl ?_)
    try any_goals (first | refine W_gT (d := 17) (sq_stepper upC_sep) _ rfl rfl ?_ | refine W_gF (d := 17) (sq_stepper upC_sep) _ rfl rfl ?_ | (refine W_splitG (sq_stepper upC_sep) _ rfl _ rfl (fun hq => ?_) (fun hq => ?_) <;> ((try simp only [hqs, reduceCtorEq] at hq); try (have hq' := hq; clear hq))))
    try any_goals (first | refine W_skip (d := 17) (sq_stepper upC_sep) rfl rfl ?_ | refine W_move (d := 17) (sq_stepper upC_sep) rfl rfl rfl ?_)
    try any_goals (first | refine W_skip (d := 18) (sq_stepper upC_sep) rfl rfl ?_ | refine W_fieldG (d := 18) (sq_stepper upC_sep) (Proj.tail _ _ (Proj.head _ _ _)) (by kernel_rfl) rfl rfl rfl ?_ | refine W_fieldC (d := 18) (sq_stepper upC_sep) (off := 1) (by kernel_rfl) rfl rfl rfl ?_)
    try any_goals (first | refine W_skip (d := 19) (sq_stepper upC_sep) rfl rfl ?_ | refine W_loadRaw (d := 19) (dpL d vS vT vs).length (sq_stepper upC_sep) get_mid (by kernel_rfl) rfl rfl rfl rfl ?_)
    try any_goals (first | refine W_skip (d := 20) (sq_stepper upC_sep) rfl rfl ?_ | refine W_move (d := 20) (sq_stepper upC_sep) rfl rfl rfl ?_)
    try any_goals (first | refine W_skip (d := 21) (sq_stepper upC_sep) rfl rfl ?_ | refine W_idxS1 (d := 21) 1 (sq_stepper upC_sep) rfl rfl (by kernel_rfl) rfl rfl rfl rfl ⟨by omega, by omega⟩ ?_)
    try any_goals (first | refine W_skip (d := 22) (sq_stepper upC_sep) rfl rfl ?_ | refine W_loadSV (d := 22) 1 (sq_stepper upC_sep) rfl ⟨by omega, by omega⟩ (by kernel_rfl) rfl rfl rfl ?_)
    try any_goals (first | refine W_skip (d := 23) (sq_stepper upC_sep) rfl rfl ?_ | refine W_lenS (d := 23) ((plI d.T v).toNat + 2) (sq_stepper upC_sep) (dpL_rowI hl hi) (by kernel_rfl) rfl rfl rfl ?_)
    try any_goals (first | refine W_skip (d := 24) (sq_stepper upC_sep) rfl rfl ?_ | refine W_ar (d := 24) (sq_stepper upC_sep) rfl rfl rfl rfl rfl (by first | omega | (dsimp only; omega)) ?_)
    try any_goals (first | refine W_skip (d := 25) (sq_stepper upC_sep) rfl rfl ?_ | refine W_cmp (d := 25) (sq_stepper upC_sep) rfl rfl rfl rfl rfl ?_ | refine W_neqStr (d := 25) (sq_stepper upC_sep) rfl rfl rfl rfl ?_ | refine W_neqB (d := 25) (sq_stepper upC_sep) rfl rfl Try.underlying4 rfl rfl ?_)
    try any_goals (first | refine W_pickT (d := 26) (sq_stepper upC_sep) rfl rfl rfl rfl ?_ | refine W_pickF (d := 26) (sq_stepper upC_sep) rfl rfl rfl rfl ?_)
    try any_goals (first | (refine Sq_nil ?_; try refine G_then ?_) | refine G_then ?_)
    try any_goals (first | refine H_condT rfl ?_ | refine H_condF rfl ?_ | (refine H_cond _ rfl (fun hq => ?_) (fun hq => ?_) <;> (try simp only [hqs, reduceCtorEq] at hq)))
    try any_goals (first | (refine H_seq ?_; try refine H_reg ?_) | refine H_reg ?_)
    try any_goals (refine W_assign (d := 4) (sq_stepper upC_sep) rfl rfl rfl ?_)
    try any_goals (first | (refine Sq_nil ?_; try refine G_then ?_) | refine G_then ?_)
    try any_goals (refine H_ret ?_)
    repeat (any_goals (first | refine G_ret_then ?_ | refine G_ret_block ?_))
    try any_goals (refine H_skip ?_)
    try any_goals (refine G_then ?_)
    try any_goals (refine H_seq ?_)
    try any_goals (refine H_draw' (by kernel_rfl) upC_sep ?_)
    try any_goals (first | refine W_fieldG (d := 27) wk_stepper (Proj.tail _ _ (Proj.head _ _ _)) (by kernel_rfl) rfl rfl rfl ?_ | refine W_fieldC (d := 27) wk_stepper (off := 1) (by kernel_rfl) rfl rfl rfl ?_)
    try any_goals (refine W_loadRaw (d := 28) (dpL d vS vT vs).length wk_stepper get_mid (by kernel_rfl) rfl rfl rfl rfl ?_)
    try any_goals (refine W_move (d := 29) wk_stepper rfl rfl rfl ?_)
    try any_goals (first | refine W_fieldG (d := 30) wk_stepper (Proj.tail _ _ (Proj.head _ _ _)) (by kernel_rfl) rfl rfl rfl ?_ | refine W_fieldC (d := 30) wk_stepper (off := 1) (by kernel_rfl) rfl rfl rfl ?_)
    try any_goals (refine W_loadRaw (d := 31) (dpL d vS vT vs).length wk_stepper get_mid (by kernel_rfl) rfl rfl rfl rfl ?_)
    try any_goals (refine W_move (d := 32) wk_stepper rfl rfl rfl ?_)
    try any_goals (refine W_idxS1 (d := 33) 1 wk_stepper rfl rfl (by kernel_rfl) rfl rfl rfl rfl ⟨by omega, by omega⟩ ?_)
    try any_goals (refine W_loadSV (d := 34) 1 wk_stepper rfl ⟨by omega, by omega⟩ (by kernel_rfl) rfl rfl rfl ?_)
    try any_goals (refine W_move (d := 35) wk_stepper rfl rfl rfl ?_)
    try any_goals (refine W_sliceSVTo (d := 36) ((plI d.T v).toNat + 2) wk_stepper (dpL_rowI hl hi) (by omega) (by kernel_rfl) rfl rfl rfl rfl ⟨by omega, by omega⟩ ?_)
    try any_goals (refine W_idxS1 (d := 37) 1 wk_stepper rfl rfl (by kernel_rfl) rfl rfl rfl rfl ⟨by omega, by omega⟩ ?_)
    try any_goals (refine Wk_none (by kernel_rfl) (by kernel_rfl) ?_)
    try any_goals (refine Sq_subE ((plI d.T v).toNat + 2) (dpL_rowI hl hi) (by omega) (fun hsub => ?_); refine Sq_storeSV 1 rfl (avAll_dp (L0 := .raw _ _ _ :: L0) ⟨trivial, ha⟩) ⟨by omega, by omega⟩ (by kernel_rfl) (hsub _ _) rfl rfl ?_)
    try any_goals (first | (refine Sq_nil ?_; try refine G_then ?_) | refine G_then ?_)
    try any_goals (first | (refine H_seq ?_; try refine H_reg ?_) | refine H_reg ?_)
    try any_goals (refine W_assign (d := 4) (sq_stepper upC_sep) rfl rfl rfl ?_)
    try any_goals (first | (refine Sq_nil ?_; try refine G_then ?_) | refine G_then ?_)
    try any_goals (refine H_ret ?_)
    repeat (any_goals (first | refine G_ret_then ?_ | refine G_ret_block ?_))
    all_goals first
      | exact RX1 rfl rfl (fun v w' hc hv => ⟨vs, ⟨by rw [tkD_n (tkB_n (by omega))]; exact drop_mid hc, hl⟩, by rw [tkB_n (by omega)]; exact hv⟩)
      | (have htb := tkB_y (T := d.T) (v := v) ⟨by omega, by omega⟩
         refine RX1 rfl rfl (fun u w' hc hv => ⟨vs.set (plI d.T v).toNat (subV (ix vs (plI d.T v)) 0 (plK d.T v)), ⟨?_, by rw [List.length_set]; exact hl⟩, by rw [htb]; exact hv⟩)
         have h2 := Sep.cut hc (m := (plI d.T v).toNat + 2) (k := plK d.T v) (hm_far (dpL_rowI hl hi) (by omega)) hk
         rw [dpL_set hl hi] at h2
         rw [tkD_y htb]
         exact drop_mid h2)
      | trace_state
theorem cx_park {w0 : World} {L0 : List Osl} (d : Dep) (v tr : Int) (vS vT : Value) (vs : List Value) (hl : vs.length = d.T.length) (hd : DvI d) (ha : avAll L0 22) (hai : avAll L0 3) :
    CTX Try.prog 53 (Sep w0 (dpL d vS vT vs ++ L0)) [.inl (.agg (([vS, vT] : List Value)).toArray), .inl (.int .i64 v), .inl (.int .i64 tr)] (fun (vs' : List Value) w' => Sep w0 (dpL (pkD d v tr) vS vT vs' ++ L0) w' ∧ vs'.length = d.T.length) (fun _ => .inl (.bool (pkB d v tr))) := by
  have hb := plI_bd (T := d.T) (v := v)
  have hft := hd.f.t
  have hdl := hd.l
  have hpl := ct_placeIn (e1 := some 22) (e2 := some 3) d.T v hft
  refine CTX_of Try.func53 rfl rfl rfl ?_
  have hC : UpC (Sep w0 (dpL d vS vT vs ++ L0)) := upC_sep
  try any_goals (first | (refine H_seq ?_; try refine H_reg ?_) | refine H_reg ?_)
  try any_goals (refine Sq_boxS (d := 3) rfl rfl (fun g3 => ?_); refine Sq_weaken (C' := Sep w0 (dpL d vS vT vs ++ .raw 29 g3 [vS, vT] :: L0)) (fun w' h => h.perm List.perm_middle.symm) ?_)
  try any_goals (refine W_assign (d := 6) (sq_stepper upC_sep) rfl rfl rfl ?_)
  try any_goals (first | (refine Sq_nil ?_; try refine G_then ?_) | refine G_then ?_)
  try any_goals (refine H_seq ?_)
  try any_goals (refine H_seq ?_)
  try any_goals (refine H_draw' (by kernel_rfl) upC_sep ?_)
  try any_goals (refine W_move (d := 9) wk_stepper rfl rfl rfl ?_)
  try any_goals (first | refine W_cmp (d := 10) wk_stepper rfl rfl rfl rfl rfl ?_ | refine W_strcmp (d := 10) wk_stepper rfl rfl rfl rfl rfl ?_)
  try any_goals (refine W_move (d := 11) wk_stepper rfl rfl rfl ?_)
  try any_goals (first | refine W_gT (d := 12) wk_stepper _ rfl rfl ?_ | refine W_gF (d := 12) wk_stepper _ rfl rfl ?_ | (refine W_splitG wk_stepper _ rfl _ rfl (fun hq => ?_) (fun hq => ?_) <;> ((try simp only [hqs, reduceCtorEq] at hq); try (have hq' := hq; clear hq))))
  try any_goals (first | refine W_skip (d := 12) wk_stepper rfl rfl ?_ | refine W_move (d := 12) wk_stepper rfl rfl rfl ?_)
  try any_goals (first | refine W_skip (d := 13) wk_stepper rfl rfl ?_ | refine W_fieldG (d := 13) wk_stepper (Proj.tail _ _ (Proj.head _ _ _)) (by kernel_rfl) rfl rfl rfl ?_ | refine W_fieldC (d := 13) wk_stepper (off := 1) (by kernel_rfl) rfl rfl rfl ?_)
  try any_goals (first | refine W_skip (d := 14) wk_stepper rfl rfl ?_ | refine W_loadRaw (d := 14) (dpL d vS vT vs).length wk_stepper get_mid (by kernel_rfl) rfl rfl rfl rfl ?_)
  try any_goals (first | refine W_skip (d := 15) wk_stepper rfl rfl ?_ | refine W_lenS (d := 15) 1 wk_stepper rfl (by kernel_rfl) rfl rfl rfl ?_)
  try any_goals (first | refine W_skip (d := 16) wk_stepper rfl rfl ?_ | refine W_cmp (d := 16) wk_stepper rfl rfl rfl rfl rfl ?_ | refine W_strcmp (d := 16) wk_stepper rfl rfl rfl rfl rfl ?_)
  try any_goals (first | refine W_pickT (d := 17) wk_stepper rfl rfl rfl rfl ?_ | refine W_pickF (d := 17) wk_stepper rfl rfl rfl rfl ?_)
  try any_goals (refine W_move (d := 18) wk_stepper rfl rfl rfl ?_)
  try any_goals (first | refine W_gT (d := 19) wk_stepper _ rfl rfl ?_ | refine W_gF (d := 19) wk_stepper _ rfl rfl ?_ | (refine W_splitG wk_stepper _ rfl _ rfl (fun hq => ?_) (fun hq => ?_) <;> ((try simp only [hqs, reduceCtorEq] at hq); try (have hq' := hq; clear hq))))
  try any_goals (first | refine W_skip (d := 19) wk_stepper rfl rfl ?_ | refine W_fieldG (d := 19) wk_stepper (Proj.tail _ _ (Proj.head _ _ _)) (by kernel_rfl) rfl rfl rfl ?_ | refine W_fieldC (d := 19) wk_stepper (off := 1) (by kernel_rfl) rfl rfl rfl ?_)
  try any_goals (first | refine W_skip (d := 20) wk_stepper rfl rfl ?_ | refine W_loadRaw (d := 20) (dpL d vS vT vs).length wk_stepper get_mid (by kernel_rfl) rfl rfl rfl rfl ?_)
  try any_goals (first | refine W_skip (d := 21) wk_stepper rfl rfl ?_ | refine W_move (d := 21) wk_stepper rfl rfl rfl ?_)
  try any_goals (first | refine W_skip (d := 22) wk_stepper rfl rfl ?_ | refine W_idxS1 (d := 22) 1 wk_stepper rfl rfl (by kernel_rfl) rfl rfl rfl rfl ⟨by omega, by omega⟩ ?_)
  try any_goals (first | refine W_skip (d := 23) wk_stepper rfl rfl ?_ | refine W_loadSV (d := 23) 1 wk_stepper rfl ⟨by omega, by omega⟩ (by kernel_rfl) rfl rfl rfl ?_)
  try any_goals (first | refine W_skip (d := 24) wk_stepper rfl rfl ?_ | refine W_lenS (d := 24) (tr.toNat + 2) wk_stepper (dpL_rowI hl ⟨by omega, by omega⟩) (by kernel_rfl) rfl rfl rfl ?_)
  try any_goals (first | refine W_skip (d := 25) wk_stepper rfl rfl ?_ | refine W_fieldG (d := 25) wk_stepper (Proj.head _ _ _) (by kernel_rfl) rfl rfl rfl ?_ | refine W_fieldC (d := 25) wk_stepper (off := 0) (by kernel_rfl) rfl rfl rfl ?_)
  try any_goals (first | refine W_skip (d := 26) wk_stepper rfl rfl ?_ | refine W_loadRaw (d := 26) (dpL d vS vT vs).length wk_stepper get_mid (by kernel_rfl) rfl rfl rfl rfl ?_)
  try any_goals (first | refine W_skip (d := 27) wk_stepper rfl rfl ?_ | refine W_move (d := 27) wk_stepper rfl rfl rfl ?_)
  try any_goals (first | refine W_skip (d := 28) wk_stepper rfl rfl ?_ | refine W_idxS1 (d := 28) 0 wk_stepper rfl rfl (by kernel_rfl) rfl rfl rfl rfl ⟨by omega, by omega⟩ ?_)
  try any_goals (first | refine W_skip (d := 29) wk_stepper rfl rfl ?_ | refine W_loadSI (d := 29) 0 wk_stepper rfl ⟨by omega, by omega⟩ (by kernel_rfl) rfl rfl rfl ?_)
  try any_goals (first | refine W_skip (d := 30) wk_stepper rfl rfl ?_ | refine W_cmp (d := 30) wk_stepper rfl rfl rfl rfl rfl ?_ | refine W_strcmp (d := 30) wk_stepper rfl rfl rfl rfl rfl ?_)
  try any_goals (first | refine W_pickT (d := 31) wk_stepper rfl rfl rfl rfl ?_ | refine W_pickF (d := 31) wk_stepper rfl rfl rfl rfl ?_)
  try any_goals (refine W_move (d := 32) wk_stepper rfl rfl rfl ?_)
  try any_goals (first | refine W_gT (d := 33) wk_stepper _ rfl rfl ?_ | refine W_gF (d := 33) wk_stepper _ rfl rfl ?_ | (refine W_splitG wk_stepper _ rfl _ rfl (fun hq => ?_) (fun hq => ?_) <;> ((try simp only [hqs, reduceCtorEq] at hq); try (have hq' := hq; clear hq))))
  try any_goals (first | refine W_skip (d := 33) wk_stepper rfl rfl ?_ | refine W_move (d := 33) wk_stepper rfl rfl rfl ?_)
  try any_goals (first | refine W_skip (d := 34) wk_stepper rfl rfl ?_ | refine W_ct (d := 34) wk_stepper (ct_within _ _ _) rfl rfl rfl (by kernel_rfl) ?_)
  try any_goals (first | refine W_skip (d := 35) wk_stepper rfl rfl ?_ | refine W_not (d := 35) wk_stepper rfl rfl rfl ?_)
  try any_goals (first | refine W_pickT (d := 36) wk_stepper rfl rfl rfl rfl ?_ | refine W_pickF (d := 36) wk_stepper rfl rfl rfl rfl ?_)
  try any_goals (refine Wk_end (by kernel_rfl) (by kernel_rfl) ?_)
  try any_goals (refine G_then ?_)
  try any_goals (first | refine H_condT rfl ?_ | refine H_condF rfl ?_ | (refine H_cond _ rfl (fun hq => ?_) (fun hq => ?_) <;> (try simp only [hqs, reduceCtorEq] at hq)))
  try any_goals (first | (refine H_seq ?_; try refine H_reg ?_) | refine H_reg ?_)
  try any_goals (refine W_assign (d := 6) (sq_stepper upC_sep) rfl rfl rfl ?_)
  try any_goals (first | (refine Sq_nil ?_; try refine G_then ?_) | refine G_then ?_)
  try any_goals (refine H_ret ?_)
  repeat (any_goals (first | refine G_ret_then ?_ | refine G_ret_block ?_))
  try any_goals (refine H_skip ?_)
  try any_goals (refine G_then ?_)
  try any_goals (refine H_seq ?_)
  try any_goals (first | (refine H_seq ?_; try refine H_reg ?_) | refine H_reg ?_)
  try any_goals (first | refine W_fieldG (d := 38) (sq_stepper upC_sep) (Proj.tail _ _ (Proj.head _ _ _)) (by kernel_rfl) rfl rfl rfl ?_ | refine W_fieldC (d := 38) (sq_stepper upC_sep) (off := 1) (by kernel_rfl) rfl rfl rfl ?_)
  try any_goals (refine W_loadRaw (d := 39) (dpL d vS vT vs).length (sq_stepper upC_sep) get_mid (by kernel_rfl) rfl rfl rfl rfl ?_; refine Sq_recall 39 (U := uS (some 22) (pS (some 3) pI) d.T) (fun w' h => h.depT hl) rfl ?_)
  try any_goals (refine W_move (d := 40) (sq_stepper upC_sep) rfl rfl rfl ?_)
  try any_goals (refine W_ct (d := 41) (sq_stepper upC_sep) (hpl) rfl rfl rfl (by kernel_rfl) ?_)
  try any_goals (refine W_move (d := 37) (sq_stepper upC_sep) rfl rfl rfl ?_)
  try any_goals (refine W_extract (d := 42) (sq_stepper upC_sep) rfl rfl rfl rfl ?_)
  try any_goals (refine W_extract (d := 43) (sq_stepper upC_sep) rfl rfl rfl rfl ?_)
  try any_goals (refine W_assign (d := 7) (sq_stepper upC_sep) rfl rfl rfl ?_)
  try any_goals (refine W_assign (d := 8) (sq_stepper upC_sep) rfl rfl rfl ?_)
  try any_goals (first | (refine Sq_nil ?_; try refine G_then ?_) | refine G_then ?_)
  try any_goals (first | (refine H_seq ?_; try refine H_reg ?_) | refine H_reg ?_)
  try any_goals (refine W_move (d := 44) (sq_stepper upC_sep) rfl rfl rfl ?_)
  try any_goals (first | refine W_cmp (d := 45) (sq_stepper upC_sep) rfl rfl rfl rfl rfl ?_ | refine W_strcmp (d := 45) (sq_stepper upC_sep) rfl rfl rfl rfl rfl ?_)
  try any_goals (first | (refine Sq_nil ?_; try refine G_then ?_) | refine G_then ?_)
  try any_goals (first | refine H_condT rfl ?_ | refine H_condF rfl ?_ | (refine H_cond _ rfl (fun hq => ?_) (fun hq => ?_) <;> (try simp only [hqs, reduceCtorEq] at hq)))
  try any_goals (first | (refine H_seq ?_; try refine H_reg ?_) | refine H_reg ?_)
  try any_goals (refine W_assign (d := 6) (sq_stepper upC_sep) rfl rfl rfl ?_)
  try any_goals (first | (refine Sq_nil ?_; try refine G_then ?_) | refine G_then ?_)
  try any_goals (refine H_ret ?_)
  repeat (any_goals (first | refine G_ret_then ?_ | refine G_ret_block ?_))
  try any_goals (refine H_skip ?_)
  try any_goals (refine G_then ?_)
  try any_goals (refine H_seq ?_)
  try any_goals (have hti : 0 ≤ tr ∧ tr < (d.T.length : Int) := ⟨by omega, by omega⟩; have hrb := hd.row' hti)
  try any_goals (refine H_drawA [3, 4, 5, 6, 7, 8, 9] [0, 1, 2] [11, 12] 10 56 (fun w => Blk w g3 29 [vS, vT]) (fun v56 : Value => v56) (fun v56 => Sep w0 ((dpL d vS vT vs ++ .raw 29 g3 [vS, vT] :: L0).set (tr.toNat + 2) (.sl Int 3 pI (ix d.T tr ++ [v]) v56))) (by kernel_rfl) (by kernel_rfl) (by kernel_rfl) rfl rfl upC_sep (fun _ => upC_sep) (fun w h => h.raw get_mid) (fun y w h => h.raw (hm_far get_mid (by simp only [dpL, List.length_cons, rowsZ_len hl]; omega))) ?_)
  try any_goals (first | refine W_fieldG (d := 49) wa_stepper (Proj.tail _ _ (Proj.head _ _ _)) (by kernel_rfl) rfl rfl rfl ?_ | refine W_fieldC (d := 49) wa_stepper (off := 1) (by kernel_rfl) rfl rfl rfl ?_)
  try any_goals (refine W_loadRaw (d := 50) (dpL d vS vT vs).length wa_stepper get_mid (by kernel_rfl) rfl rfl rfl rfl ?_)
  try any_goals (refine W_move (d := 51) wa_stepper rfl rfl rfl ?_)
  try any_goals (refine W_idxS1 (d := 52) 1 wa_stepper rfl rfl (by kernel_rfl) rfl rfl rfl rfl ⟨by omega, by omega⟩ ?_)
  try any_goals (refine W_loadSV (d := 53) 1 wa_stepper rfl ⟨by omega, by omega⟩ (by kernel_rfl) rfl rfl rfl ?_)
  try any_goals (refine W_move (d := 54) wa_stepper rfl rfl rfl ?_)
  try any_goals (refine W_buildS (d := 55) wa_stepper [(Operand.tmp 54)] pI [_] (e := 3) (by kernel_rfl) (by kernel_rfl) rfl rfl (by kernel_rfl) rfl rfl rfl ⟨elem_I, trivial⟩ ?_)
  try any_goals (refine WA_nil (WrOb_appS (tr.toNat + 2) rfl (dpL_rowI hl hti) (avAll_dp (L0 := .raw _ _ _ :: L0) ⟨trivial, hai⟩) (by kernel_rfl) (by kernel_rfl) rfl rfl rfl ⟨by simp only [List.length_cons, List.length_nil]; omega, by simp⟩) ?_)
  try any_goals (refine A_one rfl ?_)
  try any_goals (first | refine W_fieldG (d := 46) wl1_stepper (Proj.tail _ _ (Proj.head _ _ _)) (by kernel_rfl) rfl rfl rfl ?_ | refine W_fieldC (d := 46) wl1_stepper (off := 1) (by kernel_rfl) rfl rfl rfl ?_)
  try any_goals (refine A_end ?_)
  try any_goals (refine A_one rfl ?_)
  try any_goals (refine W_loadO (d := 47) wl1_stepper (by kernel_rfl) rfl rfl rfl (fun w' h => Blk.cell h rfl) ?_)
  try any_goals (refine A_end ?_)
  try any_goals (refine A_one rfl ?_)
  try any_goals (refine W_move (d := 48) wl1_stepper rfl rfl rfl ?_)
  try any_goals (refine A_end ?_)
  try any_goals (refine A_nil (fun v56 => ?_))
  try any_goals (refine W_idxS1 (d := 57) 1 (sq_stepper upC_sep) (hm_far (o := Osl.sl Value 22 pV vs vT) rfl (by omega)) rfl (by kernel_rfl) rfl rfl rfl rfl ⟨by omega, by omega⟩ ?_)
  try any_goals (refine Sq_slV (tr.toNat + 2) (hm_set (dpL_rowI hl hti)) (fun hv56 => ?_); refine Sq_storeSV 1 (hm_far (o := Osl.sl Value 22 pV vs vT) rfl (by omega)) ((avAll_dp (L0 := .raw _ _ _ :: L0) ⟨trivial, ha⟩).set trivial) ⟨by omega, by omega⟩ (by kernel_rfl) hv56 rfl rfl ?_)
  try any_goals (first | (refine Sq_nil ?_; try refine G_then ?_) | refine G_then ?_)
  try any_goals (first | (refine H_seq ?_; try refine H_reg ?_) | refine H_reg ?_)
  try any_goals (refine W_assign (d := 6) (sq_stepper upC_sep) rfl rfl rfl ?_)
  try any_goals (first | (refine Sq_nil ?_; try refine G_then ?_) | refine G_then ?_)
  try any_goals (refine H_ret ?_)
  repeat (any_goals (first | refine G_ret_then ?_ | refine G_ret_block ?_))
  all_goals first
    | exact RX1 rfl rfl (fun v w' hc hv => ⟨vs, ⟨by rw [pkD_n (pkB_n (by omega))]; exact drop_mid hc, hl⟩, by rw [pkB_n (by omega)]; exact hv⟩)
    | (have hpb := pkB_y (d := d) (v := v) (tr := tr) ⟨by omega, by omega, by omega⟩
       refine RX1 rfl rfl (fun u w' hc hv => ⟨vs.set tr.toNat v56, ⟨?_, by rw [List.length_set]; exact hl⟩, by rw [hpb]; exact hv⟩)
       rw [dpL_set' hl hti] at hc
       rw [pkD_y hpb]
       exact drop_mid hc)
    | trace_state
end Go.Proofs.Ytbipnenkgkebjaa

/- The days of the rides and what they cost. -/
import Derived.Test.YtmielcopoinkhaaRide
import Derived.Test.YtmielcopoinkhaaRunF0
import Derived.Test.YtmielcopoinkhaaDrn
namespace Go.Proofs.Ytmielcopoinkhaa
set_option linter.unusedSimpArgs false
set_option linter.unusedVariables false
open Go.RowKit Go.ChangeShapes Go.WideShapes Go.ChangeAt Go.Deep
def lastI (l : List Int) : Int := ix l ((l.length : Int) - 1)
def dcS (xs : List Rid) : Nat → List Int × List Int
  | 0 => ([], [])
  | i + 1 => if (dcS xs i).1.length = 0 ∨ lastI (dcS xs i).1 ≠ (ix xs i).D then ((dcS xs i).1 ++ [(ix xs i).D], (dcS xs i).2 ++ [(ix xs i).F]) else ((dcS xs i).1, (dcS xs i).2.set ((dcS xs i).1.length - 1) (ix (dcS xs i).2 (((dcS xs i).1.length : Int) - 1) + (ix xs i).F))
theorem dcS_y {xs : List Rid} {i : Nat} (h : (dcS xs i).1.length = 0 ∨ lastI (dcS xs i).1 ≠ (ix xs i).D) : dcS xs (i + 1) = ((dcS xs i).1 ++ [(ix xs i).D], (dcS xs i).2 ++ [(ix xs i).F]) := by rw [dcS, if_pos h]
theorem dcS_n {xs : List Rid} {i : Nat} (h : ¬ ((dcS xs i).1.length = 0 ∨ lastI (dcS xs i).1 ≠ (ix xs i).D)) : dcS xs (i + 1) = ((dcS xs i).1, (dcS xs i).2.set ((dcS xs i).1.length - 1) (ix (dcS xs i).2 (((dcS xs i).1.length : Int) - 1) + (ix xs i).F)) := by rw [dcS, if_neg h]
theorem dc_len {xs : List Rid} : ∀ {i : Nat}, (dcS xs i).2.length = (dcS xs i).1.length ∧ (dcS xs i).1.length ≤ i
  | 0 => ⟨rfl, Nat.le_refl _⟩
  | i + 1 => by
    have := dc_len (xs := xs) (i := i)
    by_cases h : (dcS xs i).1.length = 0 ∨ lastI (dcS xs i).1 ≠ (ix xs i).D
    · rw [dcS_y h]; simp only [List.length_append, List.length_cons, List.length_nil]; omega
    · rw [dcS_n h]; simp only [List.length_set]; omega
theorem ixset_same {l : List Int} {j : Nat} {x : Int} (h : j < l.length) : ix (l.set j x) (j : Int) = x := by simp [ix, h]
theorem ixset_ne {l : List Int} {j : Nat} {i : Int} {x : Int} (h : i.toNat ≠ j) : ix (l.set j x) i = ix l i := by
  unfold ix
  rw [List.getD_eq_getElem?_getD, List.getD_eq_getElem?_getD, List.getElem?_set_ne (Ne.symm h)]
theorem ix_snoc_l {l : List Int} {x : Int} {j : Nat} (h : j < l.length) : ix (l ++ [x]) (j : Int) = ix l j := by
  unfold ix
  rw [List.getD_eq_getElem?_getD, List.getD_eq_getElem?_getD, List.getElem?_append_left (by rw [Int.toNat_natCast]; exact h)]
theorem ix_snoc_r {l : List Int} {x : Int} : ix (l ++ [x]) (l.length : Int) = x := by simp [ix]
theorem dc_bd {xs : List Rid} (hv : risOk xs = true) : ∀ {i : Nat}, i ≤ xs.length → ∀ j : Nat, j < (dcS xs i).2.length → 0 ≤ ix (dcS xs i).2 j ∧ ix (dcS xs i).2 j ≤ 10000 * i
  | 0, _, j, hj => by simp [dcS] at hj
  | i + 1, hi, j, hj => by
    have hl := dc_len (xs := xs) (i := i)
    have ih := dc_bd hv (i := i) (by omega)
    have hr := ((risOk_t xs).1 hv).2 i (by omega)
    rw [riAt_t] at hr
    by_cases h : (dcS xs i).1.length = 0 ∨ lastI (dcS xs i).1 ≠ (ix xs i).D
    · rw [dcS_y h] at hj ⊢
      simp only [List.length_append, List.length_cons, List.length_nil] at hj ⊢
      by_cases e : j = (dcS xs i).2.length
      · rw [e, ix_snoc_r]; omega
      · rw [ix_snoc_l (by omega)]; have := ih j (by omega); omega
    · rw [dcS_n h] at hj ⊢
      simp only [List.length_set] at hj ⊢
      have hne : ¬ (dcS xs i).1.length = 0 := fun e => h (.inl e)
      have hz := ih ((dcS xs i).1.length - 1) (by omega)
      rw [show (((dcS xs i).1.length - 1 : Nat) : Int) = ((dcS xs i).1.length : Int) - 1 by omega] at hz
      by_cases e : j = (dcS xs i).1.length - 1
      · rw [e, ixset_same (by omega)]; omega
      · rw [ixset_ne (by omega)]; have := ih j (by omega); omega
/-- At most so much a day. -/
def minL (c : Int) (W : List Int) : Nat → List Int
  | 0 => W
  | k + 1 => (minL c W k).set k (min (ix (minL c W k) k) c)
theorem minL_len {c : Int} {W : List Int} : ∀ {k : Nat}, (minL c W k).length = W.length
  | 0 => rfl
  | k + 1 => by rw [minL, List.length_set, minL_len]
theorem minL_bd {c B : Int} {W : List Int} (hc : 0 ≤ c) (h : ∀ j : Nat, j < W.length → 0 ≤ ix W j ∧ ix W j ≤ B) : ∀ {k : Nat}, k ≤ W.length → ∀ j : Nat, j < W.length → 0 ≤ ix (minL c W k) j ∧ ix (minL c W k) j ≤ B
  | 0, _, j, hj => h j hj
  | k + 1, hk, j, hj => by
    have ih := minL_bd hc h (k := k) (by omega)
    rw [minL]
    by_cases e : j = k
    · subst e
      have := ih j hj
      rw [ixset_same (by rw [minL_len]; exact hj)]
      omega
    · rw [ixset_ne (by omega)]; exact ih j hj
def dcW (b : Prc) (xs : List Rid) : List Int := minL b.D (dcS xs xs.length).2 (dcS xs xs.length).2.length
def sumP (l : List Int) : Nat → Int
  | 0 => 0
  | k + 1 => sumP l k + ix l k
theorem sumP_bd {l : List Int} {B : Int} (h : ∀ j : Nat, j < l.length → 0 ≤ ix l j ∧ ix l j ≤ B) : ∀ {k : Nat}, k ≤ l.length → 0 ≤ sumP l k ∧ sumP l k ≤ B * k
  | 0, _ => by simp [sumP]
  | k + 1, hk => by
    have h1 := sumP_bd h (k := k) (by omega)
    have h2 := h k (by omega)
    rw [sumP]
    have : B * ((k + 1 : Nat) : Int) = B * k + B := by rw [Int.natCast_add, Int.mul_add]; simp
    omega
theorem set_last {l : List Int} {x y : Int} : (l ++ [x]).set l.length y = l ++ [y] := by simp
theorem dcW_len {b : Prc} {xs : List Rid} : (dcW b xs).length = (dcS xs xs.length).1.length := by rw [dcW, minL_len]; exact dc_len.1
theorem dcW_bd {b : Prc} {xs : List Rid} (hb : 0 ≤ b.D) (hv : risOk xs = true) : ∀ j : Nat, j < (dcW b xs).length → 0 ≤ ix (dcW b xs) j ∧ ix (dcW b xs) j ≤ 200000 := fun j hj => by
  have h20 := ((risOk_t xs).1 hv).1
  rw [dcW, minL_len] at hj
  exact minL_bd hb (fun j hj => by have := dc_bd hv (Nat.le_refl _) j hj; omega) (Nat.le_refl _) j hj
theorem ct_l21Days {e : Option TypeId} (b : Prc) (xs : List Rid) (hb : 0 ≤ b.D) (hv : risOk xs = true) : CT Try.prog 31 [.inr (uA (pPrc (some 3)) b), .inr (uS e pRid xs)] (.inr (uT [.inr (uS (some 3) pI (dcS xs xs.length).1), .inr (uS (some 3) pI (dcW b xs))])) := by
  have h20 := ((risOk_t xs).1 hv).1
  refine CT_of Try.func31 rfl rfl rfl (fun w => ?_)
  have hC := upC_ext w
  try any_goals (first | (refine H_seq ?_; try refine H_reg ?_) | refine H_reg ?_)
  try any_goals (refine W_boxA (d := 2) (sq_stepper hC) rfl rfl rfl ?_)
  try any_goals (refine W_assign (d := 4) (sq_stepper hC) rfl rfl rfl ?_)
  try any_goals (refine W_assign (d := 5) (sq_stepper hC) rfl rfl rfl ?_)
  try any_goals (first | (refine Sq_nil ?_; try refine G_then ?_) | refine G_then ?_)
  try any_goals (refine H_seq ?_)
  try any_goals (have hE : Ext _ _ := Ext.refl w)
  try any_goals (refine H_open 2 rfl (fun q u2 hw hr2 => ?_); have hE := hE.trans hw)
  try any_goals (refine H_open 1 rfl (fun q u1 hw hr1 => ?_); have hE := hE.trans hw; have hr2 := UR.lift hw hr2)
  try any_goals (refine H_weakenC (C' := Sep q []) (fun w' h => sep_start h) ?_; have hC : UpC (Sep q []) := upC_sep)
  try any_goals (refine H_reg ?_)
  try any_goals (refine Sq_buildS (d := 11) [] pI [] (e := 3) (by kernel_rfl) (by kernel_rfl) rfl rfl (by kernel_rfl) rfl rfl trivial rfl (fun v6 => ?_))
  try any_goals (refine Sq_buildS (d := 12) [] pI [] (e := 3) (by kernel_rfl) (by kernel_rfl) rfl rfl (by kernel_rfl) rfl rfl trivial rfl (fun v7 => ?_))
  try any_goals (refine W_assign (d := 6) (sq_stepper upC_sep) rfl rfl rfl ?_)
  try any_goals (refine W_assign (d := 7) (sq_stepper upC_sep) rfl rfl rfl ?_)
  try any_goals (first | (refine Sq_nil ?_; try refine G_then ?_) | refine G_then ?_)
  try any_goals (refine H_seq ?_)
  try any_goals (first | (refine H_seq ?_; try refine H_reg ?_) | refine H_reg ?_)
  try any_goals (refine W_assign (d := 8) (sq_stepper upC_sep) rfl rfl rfl ?_)
  try any_goals (first | (refine Sq_nil ?_; try refine G_then ?_) | refine G_then ?_)
  try any_goals (refine H_block ?_)
  try any_goals ((refine H_loop (σ := Nat × Value × Value) (fun x => x.1 ≤ xs.length) (fun x => [(1, .inl u1), (2, .inl u2), (6, .inl x.2.1), (7, .inl x.2.2), (8, .inl (.int .i64 x.1))]) (fun x => Sep q [.sl Int 3 pI (dcS xs x.1).2 x.2.2, .sl Int 3 pI (dcS xs x.1).1 x.2.1]) (fun x => xs.length - x.1) (0, v6, v7) (Nat.zero_le _) (fun a w' h => h.sub (by repeat (first | exact trivial | refine ⟨⟨_, rfl, fun _ _ _ h => h⟩, ?_⟩ | refine ⟨⟨_, rfl, fun v w _ h => (show v = _ from h).trans (congrArg (Value.int .i64) (by first | omega | (dsimp only; omega)))⟩, ?_⟩)) (fun w' h => h)) (fun x hi => ?_); obtain ⟨i, v6, v7⟩ := x; simp only at hi; have hdl := dc_len (xs := xs) (i := i)))
  try any_goals (refine H_seq ?_)
  try any_goals (first | (refine H_seq ?_; try refine H_reg ?_) | refine H_reg ?_)
  try any_goals (refine W_move (d := 13) (sq_stepper upC_sep) rfl rfl rfl ?_)
  try any_goals (first | refine W_moveR (d := 14) (sq_stepper upC_sep) (U := uS e pRid xs) (fun w' h => UR.lift (Sep.ext h) hr1) rfl rfl rfl ?_ | refine W_move (d := 14) (sq_stepper upC_sep) rfl rfl rfl ?_)
  try any_goals (first | refine W_lenS (d := 15) 0 (sq_stepper upC_sep) rfl (by kernel_rfl) rfl rfl rfl ?_ | refine W_lenS (d := 15) 1 (sq_stepper upC_sep) rfl (by kernel_rfl) rfl rfl rfl ?_ | refine W_len (d := 15) (sq_stepper upC_sep) (by kernel_rfl) rfl rfl rfl ?_ | refine W_lenStr (d := 15) (sq_stepper upC_sep) (by kernel_rfl) rfl rfl rfl ?_)
  try any_goals (first | refine W_cmp (d := 16) (sq_stepper upC_sep) rfl rfl rfl rfl rfl ?_ | refine W_strcmp (d := 16) (sq_stepper upC_sep) rfl rfl rfl rfl rfl ?_)
  try any_goals (first | (refine Sq_nil ?_; try refine G_then ?_) | refine G_then ?_)
  try any_goals (first | refine H_condT rfl ?_ | refine H_condF rfl (Wt.un 0 ?_) | (refine H_cond _ rfl (fun hq => ?_) (fun hq => Wt.un 0 ?_) <;> (try simp only [hqs, reduceCtorEq] at hq)))
  try any_goals (first | ((have hri := ((risOk_t xs).1 hv).2 i (by omega); rw [riAt_t] at hri; have hbi := dc_bd hv (i := i) (by omega))) | skip)
  try any_goals (refine H_skip ?_)
  try any_goals (refine G_hold 1 ?_)
  try any_goals (refine Wt.out 0 ?_)
  try any_goals (refine H_exit ?_)
  repeat (any_goals (first | refine G_exit_then ?_ | refine G_exit_here ?_ | refine G_exit_far rfl ?_))
  try any_goals (refine G_hold 2 ?_)
  try any_goals (refine Wt.out 1 ?_)
  try any_goals (refine G_then ?_)
  try any_goals (refine H_seq ?_)
  try any_goals (refine H_block ?_)
  try any_goals (first | (refine H_seq ?_; try refine H_reg ?_) | refine H_reg ?_)
  try any_goals (refine W_move (d := 19) (sq_stepper upC_sep) rfl rfl rfl ?_)
  try any_goals (first | refine W_lenS (d := 20) 0 (sq_stepper upC_sep) rfl (by kernel_rfl) rfl rfl rfl ?_ | refine W_lenS (d := 20) 1 (sq_stepper upC_sep) rfl (by kernel_rfl) rfl rfl rfl ?_ | refine W_len (d := 20) (sq_stepper upC_sep) (by kernel_rfl) rfl rfl rfl ?_ | refine W_lenStr (d := 20) (sq_stepper upC_sep) (by kernel_rfl) rfl rfl rfl ?_)
  try any_goals (refine W_assign (d := 9) (sq_stepper upC_sep) rfl rfl rfl ?_)
  try any_goals (first | (refine Sq_nil ?_; try refine G_then ?_) | refine G_then ?_)
  try any_goals (refine H_seq ?_)
  try any_goals (refine H_seq ?_)
  try any_goals (refine H_draw' (by kernel_rfl) upC_sep ?_)
  try any_goals (refine W_move (d := 21) wk_stepper rfl rfl rfl ?_)
  try any_goals (first | refine W_cmp (d := 22) wk_stepper rfl rfl rfl rfl rfl ?_ | refine W_eqlStr (d := 22) wk_stepper rfl rfl rfl rfl ?_ | refine W_eqlB (d := 22) wk_stepper rfl rfl Try.underlying4 rfl rfl ?_)
  try any_goals (refine W_move (d := 23) wk_stepper rfl rfl rfl ?_)
  try any_goals (first | refine W_gT (d := 24) wk_stepper _ rfl rfl ?_ | refine W_gF (d := 24) wk_stepper _ rfl rfl ?_ | (refine W_splitG wk_stepper _ rfl _ rfl (fun hq => ?_) (fun hq => ?_) <;> ((try simp only [hqs, reduceCtorEq] at hq); try (have hq' := hq; clear hq))))
  try any_goals (first | refine W_skip (d := 24) wk_stepper rfl rfl ?_ | refine W_move (d := 24) wk_stepper rfl rfl rfl ?_)
  try any_goals (first | refine W_skip (d := 25) wk_stepper rfl rfl ?_ | refine W_move (d := 25) wk_stepper rfl rfl rfl ?_)
  try any_goals (first | refine W_skip (d := 26) wk_stepper rfl rfl ?_ | refine W_ar (d := 26) wk_stepper rfl rfl rfl rfl rfl (by first | omega | (dsimp only; omega)) ?_)
  try any_goals (first | refine W_skip (d := 27) wk_stepper rfl rfl ?_ | refine W_idxS (d := 27) 1 wk_stepper rfl (by kernel_rfl) rfl rfl rfl rfl ⟨by first | omega | (dsimp only; omega), by first | omega | (dsimp only; omega) | (simp only [List.length_append, List.length_cons, List.length_nil]; omega)⟩ ?_)
  try any_goals (first | refine W_skip (d := 28) wk_stepper rfl rfl ?_ | refine W_loadS1 (d := 28) 1 wk_stepper (Θ := pI) (q := fun z => z) (Value.int .i64) rfl proj_self mk_I rfl ⟨by first | omega | (dsimp only; omega), by first | omega | (dsimp only; omega) | (simp only [List.length_append, List.length_cons, List.length_nil]; omega)⟩ (by kernel_rfl) rfl rfl rfl ?_)
  try any_goals (first | refine W_skip (d := 29) wk_stepper rfl rfl ?_ | refine W_moveR (d := 29) wk_stepper (U := uS e pRid xs) (fun w' h => UR.lift (Sep.ext h) hr1) rfl rfl rfl ?_ | refine W_move (d := 29) wk_stepper rfl rfl rfl ?_)
  try any_goals (first | refine W_skip (d := 30) wk_stepper rfl rfl ?_ | refine W_move (d := 30) wk_stepper rfl rfl rfl ?_)
  try any_goals (first | refine W_skip (d := 31) wk_stepper rfl rfl ?_ | refine W_idxS (d := 31) 0 wk_stepper rfl (by kernel_rfl) rfl rfl rfl rfl (by first | omega | (simp; done) | (simp; omega)) ?_ | refine W_idxS (d := 31) 1 wk_stepper rfl (by kernel_rfl) rfl rfl rfl rfl (by first | omega | (simp; done) | (simp; omega)) ?_ | refine W_index (d := 31) wk_stepper (by kernel_rfl) rfl rfl rfl rfl (by first | omega | (dsimp only; omega)) ?_)
  try any_goals (first | refine W_skip (d := 32) wk_stepper rfl rfl ?_ | refine W_fieldG (d := 32) wk_stepper (Proj.head _ _ _) (by kernel_rfl) rfl rfl rfl ?_ | refine W_fieldUP (d := 32) wk_stepper (fun w' h => UR.lift (Sep.ext h) hr2) (Proj.head _ _ _) (by kernel_rfl) rfl rfl rfl ?_ | refine W_fieldS (d := 32) 0 (off := 0) wk_stepper rfl (by first | omega | (simp; done) | (simp; omega)) (by kernel_rfl) rfl rfl rfl ?_ | refine W_fieldS (d := 32) 1 (off := 0) wk_stepper rfl (by first | omega | (simp; done) | (simp; omega)) (by kernel_rfl) rfl rfl rfl ?_ | refine W_fieldC (d := 32) wk_stepper (off := 0) (by kernel_rfl) rfl rfl rfl ?_)
  try any_goals (first | refine W_skip (d := 33) wk_stepper rfl rfl ?_ | refine W_loadI (d := 33) wk_stepper (by kernel_rfl) rfl rfl rfl ?_)
  try any_goals (first | refine W_skip (d := 34) wk_stepper rfl rfl ?_ | refine W_cmp (d := 34) wk_stepper rfl rfl rfl rfl rfl ?_ | refine W_neqStr (d := 34) wk_stepper rfl rfl rfl rfl ?_ | refine W_neqB (d := 34) wk_stepper rfl rfl Try.underlying4 rfl rfl ?_)
  try any_goals (first | refine W_pickT (d := 35) wk_stepper rfl rfl rfl rfl ?_ | refine W_pickF (d := 35) wk_stepper rfl rfl rfl rfl ?_)
  try any_goals (refine Wk_end (by kernel_rfl) (by kernel_rfl) ?_)
  try any_goals (refine G_then ?_)
  try any_goals (first | refine H_condT rfl ?_ | refine H_condF rfl (Wt.un 3 ?_) | (refine H_cond _ rfl (fun hq => ?_) (fun hq => Wt.un 3 ?_) <;> (try simp only [hqs, reduceCtorEq] at hq)))
  try any_goals (first | ((have hri := ((risOk_t xs).1 hv).2 i (by omega); rw [riAt_t] at hri; have hbi := dc_bd hv (i := i) (by omega))) | skip)
  try any_goals (first | (refine H_seq ?_; try refine H_reg ?_) | refine H_reg ?_)
  try any_goals (refine W_move (d := 36) (sq_stepper upC_sep) rfl rfl rfl ?_)
  try any_goals (first | refine W_moveR (d := 37) (sq_stepper upC_sep) (U := uS e pRid xs) (fun w' h => UR.lift (Sep.ext h) hr1) rfl rfl rfl ?_ | refine W_move (d := 37) (sq_stepper upC_sep) rfl rfl rfl ?_)
  try any_goals (refine W_move (d := 38) (sq_stepper upC_sep) rfl rfl rfl ?_)
  try any_goals (first | refine W_idxS (d := 39) 0 (sq_stepper upC_sep) rfl (by kernel_rfl) rfl rfl rfl rfl (by first | omega | (simp; done) | (simp; omega)) ?_ | refine W_idxS (d := 39) 1 (sq_stepper upC_sep) rfl (by kernel_rfl) rfl rfl rfl rfl (by first | omega | (simp; done) | (simp; omega)) ?_ | refine W_index (d := 39) (sq_stepper upC_sep) (by kernel_rfl) rfl rfl rfl rfl (by first | omega | (dsimp only; omega)) ?_)
  try any_goals (first | refine W_fieldG (d := 40) (sq_stepper upC_sep) (Proj.head _ _ _) (by kernel_rfl) rfl rfl rfl ?_ | refine W_fieldUP (d := 40) (sq_stepper upC_sep) (fun w' h => UR.lift (Sep.ext h) hr2) (Proj.head _ _ _) (by kernel_rfl) rfl rfl rfl ?_ | refine W_fieldS (d := 40) 0 (off := 0) (sq_stepper upC_sep) rfl (by first | omega | (simp; done) | (simp; omega)) (by kernel_rfl) rfl rfl rfl ?_ | refine W_fieldS (d := 40) 1 (off := 0) (sq_stepper upC_sep) rfl (by first | omega | (simp; done) | (simp; omega)) (by kernel_rfl) rfl rfl rfl ?_ | refine W_fieldC (d := 40) (sq_stepper upC_sep) (off := 0) (by kernel_rfl) rfl rfl rfl ?_)
  try any_goals (refine W_loadI (d := 41) (sq_stepper upC_sep) (by kernel_rfl) rfl rfl rfl ?_)
  try any_goals (refine W_buildS (d := 42) (sq_stepper upC_sep) [(Operand.tmp 41)] pI [_] (e := 3) (by kernel_rfl) (by kernel_rfl) rfl rfl (by kernel_rfl) rfl rfl rfl ⟨elem_I, trivial⟩ ?_)
  try any_goals (refine Sq_appS (d := 43) 1 (Ψ := pI) rfl ⟨trivial, trivial, trivial⟩ (by kernel_rfl) (by kernel_rfl) rfl rfl rfl ⟨by simp only [List.length_cons, List.length_nil]; omega, by simp⟩ (fun va => ?_))
  try any_goals (refine W_assign (d := 6) (sq_stepper upC_sep) rfl rfl rfl ?_)
  try any_goals (first | (refine Sq_nil ?_; try refine G_then ?_) | refine G_then ?_)
  try any_goals (first | (refine H_seq ?_; try refine H_reg ?_) | refine H_reg ?_)
  try any_goals (refine W_move (d := 44) (sq_stepper upC_sep) rfl rfl rfl ?_)
  try any_goals (refine W_buildS (d := 45) (sq_stepper upC_sep) [(Operand.const (Value.int .i64 (0)))] pI [_] (e := 3) (by kernel_rfl) (by kernel_rfl) rfl rfl (by kernel_rfl) rfl rfl rfl ⟨elem_I, trivial⟩ ?_)
  try any_goals (refine Sq_appS (d := 46) 0 (Ψ := pI) rfl ⟨trivial, trivial, trivial⟩ (by kernel_rfl) (by kernel_rfl) rfl rfl rfl ⟨by simp only [List.length_cons, List.length_nil]; omega, by simp⟩ (fun vb => ?_))
  try any_goals (refine W_assign (d := 7) (sq_stepper upC_sep) rfl rfl rfl ?_)
  try any_goals (first | (refine Sq_nil ?_; try refine G_then ?_) | refine G_then ?_)
  try any_goals (refine H_reg ?_)
  try any_goals (refine W_move (d := 47) (sq_stepper upC_sep) rfl rfl rfl ?_)
  try any_goals (refine W_ar (d := 48) (sq_stepper upC_sep) rfl rfl rfl rfl rfl (by first | omega | (dsimp only; omega)) ?_)
  try any_goals (refine W_assign (d := 9) (sq_stepper upC_sep) rfl rfl rfl ?_)
  try any_goals (refine Sq_nil ?_)
  try any_goals (refine G_hold 4 ?_)
  try any_goals (refine Wt.out 3 ?_)
  try any_goals (refine H_skip ?_)
  try any_goals (refine Wt.out 4 ?_)
  try any_goals (refine G_then ?_)
  try any_goals (first | (have hy : (dcS xs i).1.length = 0 ∨ lastI (dcS xs i).1 ≠ (ix xs i).D := (by first | exact .inl (by omega) | exact .inr hq); have hz0 : ix ((dcS xs i).2 ++ [0]) (((dcS xs i).1.length : Int) + 1 - 1) = 0 := (by rw [show ((dcS xs i).1.length : Int) + 1 - 1 = ((dcS xs i).2.length : Int) by omega]; exact ix_snoc_r)) | (have hbl := hbi ((dcS xs i).1.length - 1) (by omega); rw [show (((dcS xs i).1.length - 1 : Nat) : Int) = ((dcS xs i).1.length : Int) - 1 by omega] at hbl))
  try any_goals (refine H_draw' (by kernel_rfl) upC_sep ?_)
  try any_goals (refine W_move (d := 49) wk_stepper rfl rfl rfl ?_)
  try any_goals (refine W_move (d := 50) wk_stepper rfl rfl rfl ?_)
  try any_goals (refine W_ar (d := 51) wk_stepper rfl rfl rfl rfl rfl (by first | omega | (dsimp only; omega)) ?_)
  try any_goals (refine W_move (d := 52) wk_stepper rfl rfl rfl ?_)
  try any_goals (refine W_move (d := 53) wk_stepper rfl rfl rfl ?_)
  try any_goals (refine W_ar (d := 54) wk_stepper rfl rfl rfl rfl rfl (by first | omega | (dsimp only; omega)) ?_)
  try any_goals (refine W_idxS (d := 55) 0 wk_stepper rfl (by kernel_rfl) rfl rfl rfl rfl ⟨by first | omega | (dsimp only; omega), by first | omega | (dsimp only; omega) | (simp only [List.length_append, List.length_cons, List.length_nil]; omega)⟩ ?_)
  try any_goals (refine W_loadS1 (d := 56) 0 wk_stepper (Θ := pI) (q := fun z => z) (Value.int .i64) rfl proj_self mk_I rfl ⟨by first | omega | (dsimp only; omega), by first | omega | (dsimp only; omega) | (simp only [List.length_append, List.length_cons, List.length_nil]; omega)⟩ (by kernel_rfl) rfl rfl rfl ?_)
  try any_goals (first | refine W_moveR (d := 57) wk_stepper (U := uS e pRid xs) (fun w' h => UR.lift (Sep.ext h) hr1) rfl rfl rfl ?_ | refine W_move (d := 57) wk_stepper rfl rfl rfl ?_)
  try any_goals (refine W_move (d := 58) wk_stepper rfl rfl rfl ?_)
  try any_goals (first | refine W_idxS (d := 59) 0 wk_stepper rfl (by kernel_rfl) rfl rfl rfl rfl (by first | omega | (simp; done) | (simp; omega)) ?_ | refine W_idxS (d := 59) 1 wk_stepper rfl (by kernel_rfl) rfl rfl rfl rfl (by first | omega | (simp; done) | (simp; omega)) ?_ | refine W_index (d := 59) wk_stepper (by kernel_rfl) rfl rfl rfl rfl (by first | omega | (dsimp only; omega)) ?_)
  try any_goals (first | refine W_fieldG (d := 60) wk_stepper (Proj.tail _ _ (Proj.tail _ _ (Proj.head _ _ _))) (by kernel_rfl) rfl rfl rfl ?_ | refine W_fieldUP (d := 60) wk_stepper (fun w' h => UR.lift (Sep.ext h) hr2) (Proj.tail _ _ (Proj.tail _ _ (Proj.head _ _ _))) (by kernel_rfl) rfl rfl rfl ?_ | refine W_fieldS (d := 60) 0 (off := 2) wk_stepper rfl (by first | omega | (simp; done) | (simp; omega)) (by kernel_rfl) rfl rfl rfl ?_ | refine W_fieldS (d := 60) 1 (off := 2) wk_stepper rfl (by first | omega | (simp; done) | (simp; omega)) (by kernel_rfl) rfl rfl rfl ?_ | refine W_fieldC (d := 60) wk_stepper (off := 2) (by kernel_rfl) rfl rfl rfl ?_)
  try any_goals (refine W_loadI (d := 61) wk_stepper (by kernel_rfl) rfl rfl rfl ?_)
  try any_goals (refine W_ar (d := 62) wk_stepper rfl rfl rfl rfl rfl (by first | omega | (dsimp only; omega)) ?_)
  try any_goals (refine W_idxS (d := 63) 0 wk_stepper rfl (by kernel_rfl) rfl rfl rfl rfl ⟨by first | omega | (dsimp only; omega), by first | omega | (dsimp only; omega) | (simp only [List.length_append, List.length_cons, List.length_nil]; omega)⟩ ?_)
  try any_goals (refine Wk_none (by kernel_rfl) (by kernel_rfl) ?_)
  try any_goals (refine Sq_storeS 0 (n := 1) (off := 0) _ rfl ⟨trivial, trivial, trivial⟩ ⟨by first | omega | (dsimp only; omega), by first | omega | (dsimp only; omega) | (simp only [List.length_append, List.length_cons, List.length_nil]; omega)⟩ rfl (by kernel_rfl) (Nat.le_refl _) rfl rfl (hp_1 rfl rfl fun w => rfl) ?_)
  try any_goals (refine Sq_nil ?_)
  repeat (any_goals (first | refine G_exit_then ?_ | refine G_exit_here ?_ | refine G_exit_far rfl ?_ | refine G_normal_block ?_))
  try any_goals (refine G_then ?_)
  try any_goals (refine H_reg ?_)
  try any_goals (refine W_move (d := 17) (sq_stepper upC_sep) rfl rfl rfl ?_)
  try any_goals (refine W_ar (d := 18) (sq_stepper upC_sep) rfl rfl rfl rfl rfl (by first | omega | (dsimp only; omega)) ?_)
  try any_goals (refine W_assign (d := 8) (sq_stepper upC_sep) rfl rfl rfl ?_)
  try any_goals (refine Sq_nil ?_)
  try any_goals (first | refine G_again (i + 1, va, vb) (by simp only; omega) (by simp only; omega) (by repeat (first | exact trivial | refine ⟨⟨_, rfl, fun _ _ _ h => h⟩, ?_⟩ | refine ⟨⟨_, rfl, fun v w _ h => (show v = _ from h).trans (congrArg (Value.int .i64) (by first | omega | (dsimp only; omega)))⟩, ?_⟩)) (fun w' h => ?_) | refine G_again (i + 1, v6, v7) (by simp only; omega) (by simp only; omega) (by repeat (first | exact trivial | refine ⟨⟨_, rfl, fun _ _ _ h => h⟩, ?_⟩ | refine ⟨⟨_, rfl, fun v w _ h => (show v = _ from h).trans (congrArg (Value.int .i64) (by first | omega | (dsimp only; omega)))⟩, ?_⟩)) (fun w' h => ?_))
  try any_goals (refine Wt.out 2 ?_)
  repeat (any_goals (first | refine G_exit_then ?_ | refine G_exit_here ?_ | refine G_exit_far rfl ?_ | refine G_normal_block ?_))
  try any_goals (refine G_then ?_)
  try any_goals (refine H_seq ?_)
  try any_goals (first | (refine H_seq ?_; try refine H_reg ?_) | refine H_reg ?_)
  try any_goals (refine W_assign (d := 10) (sq_stepper upC_sep) rfl rfl rfl ?_)
  try any_goals (first | (refine Sq_nil ?_; try refine G_then ?_) | refine G_then ?_)
  try any_goals (refine H_block ?_)
  try any_goals ((obtain rfl : i = xs.length := (by omega); refine H_loop (σ := Nat) (fun k => k ≤ (dcS xs xs.length).2.length) (fun k => [(2, .inl u2), (6, .inl v6), (7, .inl v7), (10, .inl (.int .i64 k))]) (fun k => Sep q [.sl Int 3 pI (minL b.D (dcS xs xs.length).2 k) v7, .sl Int 3 pI (dcS xs xs.length).1 v6]) (fun k => (dcS xs xs.length).2.length - k) 0 (Nat.zero_le _) (fun a w' h => h.sub (by repeat (first | exact trivial | refine ⟨⟨_, rfl, fun _ _ _ h => h⟩, ?_⟩ | refine ⟨⟨_, rfl, fun v w _ h => (show v = _ from h).trans (congrArg (Value.int .i64) (by first | omega | (dsimp only; omega)))⟩, ?_⟩)) (fun w' h => h)) (fun k hk => ?_); have hml := minL_len (c := b.D) (W := (dcS xs xs.length).2) (k := k)))
  try any_goals (refine H_seq ?_)
  try any_goals (first | (refine H_seq ?_; try refine H_reg ?_) | refine H_reg ?_)
  try any_goals (refine W_move (d := 64) (sq_stepper upC_sep) rfl rfl rfl ?_)
  try any_goals (refine W_move (d := 65) (sq_stepper upC_sep) rfl rfl rfl ?_)
  try any_goals (first | refine W_lenS (d := 66) 0 (sq_stepper upC_sep) rfl (by kernel_rfl) rfl rfl rfl ?_ | refine W_lenS (d := 66) 1 (sq_stepper upC_sep) rfl (by kernel_rfl) rfl rfl rfl ?_ | refine W_len (d := 66) (sq_stepper upC_sep) (by kernel_rfl) rfl rfl rfl ?_ | refine W_lenStr (d := 66) (sq_stepper upC_sep) (by kernel_rfl) rfl rfl rfl ?_)
  try any_goals (first | refine W_cmp (d := 67) (sq_stepper upC_sep) rfl rfl rfl rfl rfl ?_ | refine W_strcmp (d := 67) (sq_stepper upC_sep) rfl rfl rfl rfl rfl ?_)
  try any_goals (first | (refine Sq_nil ?_; try refine G_then ?_) | refine G_then ?_)
  try any_goals (first | refine H_condT rfl ?_ | refine H_condF rfl (Wt.un 5 ?_) | (refine H_cond _ rfl (fun hq => ?_) (fun hq => Wt.un 5 ?_) <;> (try simp only [hqs, reduceCtorEq] at hq)))
  try any_goals (first | ((have hri := ((risOk_t xs).1 hv).2 i (by omega); rw [riAt_t] at hri; have hbi := dc_bd hv (i := i) (by omega))) | skip)
  try any_goals (refine H_skip ?_)
  try any_goals (refine G_hold 6 ?_)
  try any_goals (refine Wt.out 5 ?_)
  try any_goals (refine H_exit ?_)
  repeat (any_goals (first | refine G_exit_then ?_ | refine G_exit_here ?_ | refine G_exit_far rfl ?_))
  try any_goals (refine G_hold 7 ?_)
  try any_goals (refine Wt.out 6 ?_)
  try any_goals (refine G_then ?_)
  try any_goals (refine H_seq ?_)
  try any_goals (refine H_block ?_)
  try any_goals (refine H_draw' (by kernel_rfl) upC_sep ?_)
  try any_goals (refine W_move (d := 70) wk_stepper rfl rfl rfl ?_)
  try any_goals (refine W_move (d := 71) wk_stepper rfl rfl rfl ?_)
  try any_goals (refine W_move (d := 72) wk_stepper rfl rfl rfl ?_)
  try any_goals (refine W_move (d := 73) wk_stepper rfl rfl rfl ?_)
  try any_goals (refine W_idxS (d := 74) 0 wk_stepper rfl (by kernel_rfl) rfl rfl rfl rfl ⟨by first | omega | (dsimp only; omega), by first | omega | (dsimp only; omega) | (simp only [List.length_append, List.length_cons, List.length_nil]; omega)⟩ ?_)
  try any_goals (refine W_loadS1 (d := 75) 0 wk_stepper (Θ := pI) (q := fun z => z) (Value.int .i64) rfl proj_self mk_I rfl ⟨by first | omega | (dsimp only; omega), by first | omega | (dsimp only; omega) | (simp only [List.length_append, List.length_cons, List.length_nil]; omega)⟩ (by kernel_rfl) rfl rfl rfl ?_)
  try any_goals (first | refine W_fieldG (d := 76) wk_stepper (Proj.tail _ _ (Proj.head _ _ _)) (by kernel_rfl) rfl rfl rfl ?_ | refine W_fieldUP (d := 76) wk_stepper (fun w' h => UR.lift (Sep.ext h) hr2) (Proj.tail _ _ (Proj.head _ _ _)) (by kernel_rfl) rfl rfl rfl ?_ | refine W_fieldS (d := 76) 0 (off := 1) wk_stepper rfl (by first | omega | (simp; done) | (simp; omega)) (by kernel_rfl) rfl rfl rfl ?_ | refine W_fieldS (d := 76) 1 (off := 1) wk_stepper rfl (by first | omega | (simp; done) | (simp; omega)) (by kernel_rfl) rfl rfl rfl ?_ | refine W_fieldC (d := 76) wk_stepper (off := 1) (by kernel_rfl) rfl rfl rfl ?_)
  try any_goals (refine W_loadI (d := 77) wk_stepper (by kernel_rfl) rfl rfl rfl ?_)
  try any_goals (refine W_ct (d := 78) wk_stepper (ct_l1Least _ _) rfl rfl rfl (by kernel_rfl) ?_)
  try any_goals (refine W_idxS (d := 79) 0 wk_stepper rfl (by kernel_rfl) rfl rfl rfl rfl ⟨by first | omega | (dsimp only; omega), by first | omega | (dsimp only; omega) | (simp only [List.length_append, List.length_cons, List.length_nil]; omega)⟩ ?_)
  try any_goals (refine Wk_none (by kernel_rfl) (by kernel_rfl) ?_)
  try any_goals (refine Sq_storeS 0 (n := 1) (off := 0) _ rfl ⟨trivial, trivial, trivial⟩ ⟨by first | omega | (dsimp only; omega), by first | omega | (dsimp only; omega) | (simp only [List.length_append, List.length_cons, List.length_nil]; omega)⟩ rfl (by kernel_rfl) (Nat.le_refl _) rfl rfl (hp_1 rfl rfl fun w => rfl) ?_)
  try any_goals (refine Sq_nil ?_)
  repeat (any_goals (first | refine G_exit_then ?_ | refine G_exit_here ?_ | refine G_exit_far rfl ?_ | refine G_normal_block ?_))
  try any_goals (refine G_then ?_)
  try any_goals (refine H_reg ?_)
  try any_goals (refine W_move (d := 68) (sq_stepper upC_sep) rfl rfl rfl ?_)
  try any_goals (refine W_ar (d := 69) (sq_stepper upC_sep) rfl rfl rfl rfl rfl (by first | omega | (dsimp only; omega)) ?_)
  try any_goals (refine W_assign (d := 10) (sq_stepper upC_sep) rfl rfl rfl ?_)
  try any_goals (refine Sq_nil ?_)
  try any_goals (refine G_again (k + 1) (by omega) (by omega) (by repeat (first | exact trivial | refine ⟨⟨_, rfl, fun _ _ _ h => h⟩, ?_⟩ | refine ⟨⟨_, rfl, fun v w _ h => (show v = _ from h).trans (congrArg (Value.int .i64) (by first | omega | (dsimp only; omega)))⟩, ?_⟩)) (fun w' h => h))
  try any_goals (refine Wt.out 7 ?_)
  repeat (any_goals (first | refine G_exit_then ?_ | refine G_exit_here ?_ | refine G_exit_far rfl ?_ | refine G_normal_block ?_))
  try any_goals (refine G_then ?_)
  try any_goals (first | (refine H_seq ?_; try refine H_reg ?_) | refine H_reg ?_)
  try any_goals (refine W_move (d := 80) (sq_stepper upC_sep) rfl rfl rfl ?_)
  try any_goals (refine W_move (d := 81) (sq_stepper upC_sep) rfl rfl rfl ?_)
  try any_goals (refine W_assign (d := 4) (sq_stepper upC_sep) rfl rfl rfl ?_)
  try any_goals (refine W_assign (d := 5) (sq_stepper upC_sep) rfl rfl rfl ?_)
  try any_goals (first | (refine Sq_nil ?_; try refine G_then ?_) | refine G_then ?_)
  try any_goals (refine H_ret ?_)
  repeat (any_goals (first | refine G_ret_then ?_ | refine G_ret_block ?_))
  all_goals (try dsimp only at *)
  all_goals first
    | (rw [dcS_y hy]
       dsimp only
       rw [hz0, show (((dcS xs i).1.length : Int) + 1 - 1).toNat = (dcS xs i).2.length by omega, set_last, Int.zero_add] at h
       exact h)
    | (rw [dcS_n (fun hh => hh.elim (fun e => by omega) (fun e => e hq))]
       dsimp only
       rw [show (((dcS xs i).1.length : Int) - 1).toNat = (dcS xs i).1.length - 1 by omega] at h
       exact h)
    | (obtain rfl : k = (dcS xs xs.length).2.length := by omega
       exact R2 rfl (fun _ h => hE.trans h.ext) rfl rfl (fun v w' hc hv => by rw [show v = _ from hv]; exact hc.isS (m := 1) rfl) (fun v w' hc hv => by rw [show v = _ from hv]; exact hc.isS (m := 0) rfl))
    | trace_state
end Go.Proofs.Ytmielcopoinkhaa

/- Blocks of trips: checked both ways; the place of a trip in them. -/
import Derived.Test.YtanlaggnhocjhaaGreatFlt
import Derived.Test.YtanlaggnhocjhaaGreatVals
namespace Go.Proofs.YtanlaggnhocjhaaGreat
set_option linter.unusedSimpArgs false
set_option linter.unusedVariables false
open Go.RowKit Go.ChangeShapes Go.WideShapes Go.ChangeAt Go.Deep
def sixB (t : Tab) (B : List (List Int)) (i k : Nat) : List Int := (seenL B i k).map (fndT t)
def idOk (t : Tab) (f : Flt) (B : List (List Int)) (i k : Nat) : Bool := decide (0 ≤ fndT t (ix (ix B i) k)) && !decide (fndT t (ix (ix B i) k) ∈ sixB t B i k) && (decide (k = 0) || folB t f (ix t.T (fndT t (ix (ix B i) ((k : Int) - 1)))) (ix t.T (fndT t (ix (ix B i) k))))
def bkOk (t : Tab) (f : Flt) (B : List (List Int)) (i : Nat) : Bool := decide (0 < ((ix B i).length : Int)) && (decide (i = 0) || decide (ix (ix B ((i : Int) - 1)) 0 < ix (ix B i) 0)) && allN (ix B i).length (idOk t f B i)
def blkB (t : Tab) (f : Flt) (B : List (List Int)) : Bool := allN B.length (bkOk t f B) && decide ((B.flatten.length : Int) = t.T.length)
theorem idOk_f {t : Tab} {f : Flt} {B : List (List Int)} {i k : Nat} (h : fndT t (ix (ix B i) k) < 0 ∨ (fndT t (ix (ix B i) k)) ∈ sixB t B i k) : idOk t f B i k = false := by
  rcases h with h | h
  · rw [idOk, decide_eq_false (by omega)]; rfl
  · rw [idOk, decide_eq_true h]; simp
theorem idOk_f2 {t : Tab} {f : Flt} {B : List (List Int)} {i k : Nat} (hk : (k : Int) > 0) (h : folB t f (ix t.T (fndT t (ix (ix B i) ((k : Int) - 1)))) (ix t.T (fndT t (ix (ix B i) k))) = false) : idOk t f B i k = false := by
  rw [idOk, h, decide_eq_false (show ¬ k = 0 by omega)]; simp
theorem idOk_t {t : Tab} {f : Flt} {B : List (List Int)} {i k : Nat} (h1 : 0 ≤ fndT t (ix (ix B i) k)) (h2 : ¬ fndT t (ix (ix B i) k) ∈ sixB t B i k) (h : (k : Int) = 0 ∨ folB t f (ix t.T (fndT t (ix (ix B i) ((k : Int) - 1)))) (ix t.T (fndT t (ix (ix B i) k))) = true) : idOk t f B i k = true := by
  rw [idOk, decide_eq_true h1, decide_eq_false h2]
  rcases h with h | h
  · rw [decide_eq_true (show k = 0 by omega)]; rfl
  · rw [h, Bool.or_true]; rfl
theorem bkOk_f {t : Tab} {f : Flt} {B : List (List Int)} {i : Nat} (h : ((ix B i).length : Int) = 0 ∨ ((i : Int) > 0 ∧ ix (ix B ((i : Int) - 1)) 0 ≥ ix (ix B i) 0)) : bkOk t f B i = false := by
  rcases h with h | h
  · rw [bkOk, decide_eq_false (by omega)]; rfl
  · rw [bkOk, decide_eq_false (show ¬ i = 0 by omega), decide_eq_false (show ¬ ix (ix B ((i : Int) - 1)) 0 < ix (ix B i) 0 by omega)]; simp
theorem bkOk_f2 {t : Tab} {f : Flt} {B : List (List Int)} {i k : Nat} (hk : k < (ix B i).length) (h : idOk t f B i k = false) : bkOk t f B i = false := by rw [bkOk, allN_f hk h, Bool.and_false]
theorem bkOk_t {t : Tab} {f : Flt} {B : List (List Int)} {i k : Nat} (h1 : 0 < ((ix B i).length : Int)) (h2 : (i : Int) = 0 ∨ ix (ix B ((i : Int) - 1)) 0 < ix (ix B i) 0) (hk : (ix B i).length ≤ k) (h : ∀ j, j < k → idOk t f B i j = true) : bkOk t f B i = true := by
  rw [bkOk, decide_eq_true h1, allN_y hk h]
  rcases h2 with h2 | h2
  · rw [decide_eq_true (show i = 0 by omega)]; rfl
  · rw [decide_eq_true h2, Bool.or_true]; rfl
theorem blkB_f {t : Tab} {f : Flt} {B : List (List Int)} {i : Nat} (hi : i < B.length) (h : bkOk t f B i = false) : blkB t f B = false := by rw [blkB, allN_f hi h]; rfl
theorem blkB_e {t : Tab} {f : Flt} {B : List (List Int)} {i : Nat} (hi : B.length ≤ i) (h : ∀ j, j < i → bkOk t f B j = true) : decide (((sixB t B i 0).length : Int) = t.T.length) = blkB t f B := by
  rw [blkB, allN_y hi h, Bool.true_and, sixB, List.length_map, seenL_all hi]
theorem idOk_k {t : Tab} {f : Flt} {B : List (List Int)} {i k : Nat} (h : idOk t f B i k = true) : 0 ≤ fndT t (ix (ix B i) k) ∧ ¬ fndT t (ix (ix B i) k) ∈ sixB t B i k ∧ (k = 0 ∨ folB t f (ix t.T (fndT t (ix (ix B i) ((k : Int) - 1)))) (ix t.T (fndT t (ix (ix B i) k))) = true) := by
  simp only [idOk, Bool.and_eq_true, Bool.or_eq_true, Bool.not_eq_true', decide_eq_true_eq, decide_eq_false_iff_not] at h
  exact ⟨h.1.1, h.1.2, h.2⟩
theorem blkB_k {t : Tab} {f : Flt} {B : List (List Int)} (h : blkB t f B = true) {i : Nat} (hi : (i : Int) < B.length) : 0 < ((ix B i).length : Int) ∧ ∀ k : Nat, (k : Int) < (ix B i).length → idOk t f B i k = true := by
  simp only [blkB, Bool.and_eq_true] at h
  have h1 := allN_t.1 h.1 i (by omega)
  simp only [bkOk, Bool.and_eq_true, decide_eq_true_eq] at h1
  exact ⟨h1.1.1, fun k hk => allN_t.1 h1.2 k (by omega)⟩
theorem blkB_n {t : Tab} {f : Flt} {B : List (List Int)} (h : blkB t f B = true) : (B.flatten.length : Int) = t.T.length := by
  simp only [blkB, Bool.and_eq_true, decide_eq_true_eq] at h
  exact h.2
/-! What lies before a place: different trips. -/
def SxOk (t : Tab) (S : List Int) : Prop := S.Nodup ∧ ∀ x ∈ S, 0 ≤ x ∧ x < t.T.length
theorem pigeon : ∀ {n : Nat} {l : List Int}, l.Nodup → (∀ x ∈ l, 0 ≤ x ∧ x < (n : Int)) → l.length ≤ n
  | 0, l, _, h => by
    cases l with
    | nil => exact Nat.le_refl _
    | cons x l => have := h x List.mem_cons_self; omega
  | n + 1, l, hn, h => by
    have ih := pigeon (n := n) (hn.erase (n : Int)) (fun x hx => by
      have h1 := (hn.mem_erase_iff).1 hx
      have := h x h1.2
      have := h1.1
      omega)
    by_cases hm : (n : Int) ∈ l
    · rw [List.length_erase_of_mem hm] at ih; omega
    · rw [List.erase_of_not_mem hm] at ih; omega
theorem SxOk.le {t : Tab} {S : List Int} (h : SxOk t S) : S.length ≤ t.T.length := pigeon h.1 h.2
theorem SxOk.nil {t : Tab} : SxOk t [] := ⟨List.nodup_nil, fun x h => by cases h⟩
theorem sixB_zero {t : Tab} {B : List (List Int)} : sixB t B 0 0 = [] := by rw [sixB, seenL_zero]; rfl
theorem sixB_step {t : Tab} {B : List (List Int)} {i k : Nat} (hk : (k : Int) < (ix B i).length) : sixB t B i (k + 1) = sixB t B i k ++ [fndT t (ix (ix B i) k)] := by
  rw [sixB, seenL_step hk, List.map_append]; rfl
theorem sixB_next {t : Tab} {B : List (List Int)} {i k : Nat} (hi : (i : Int) < B.length) (hk : ((ix B i).length : Int) ≤ k) : sixB t B (i + 1) 0 = sixB t B i k := by
  rw [sixB, seenL_next hi hk]; rfl
theorem SxOk.step {t : Tab} {B : List (List Int)} {i k : Nat} (h : SxOk t (sixB t B i k)) (hk : (k : Int) < (ix B i).length) (h0 : 0 ≤ fndT t (ix (ix B i) k)) (h1 : ¬ fndT t (ix (ix B i) k) ∈ sixB t B i k) : SxOk t (sixB t B i (k + 1)) := by
  rw [sixB_step hk]
  refine ⟨List.nodup_append.2 ⟨h.1, by simp, fun a ha b hb e => ?_⟩, fun x hx => ?_⟩
  · simp at hb
    subst hb
    exact h1 (e ▸ ha)
  · rcases List.mem_append.1 hx with hx | hx
    · exact h.2 x hx
    · simp at hx
      subst hx
      exact ⟨h0, fndT_bd.2⟩
theorem prev_in {t : Tab} {B : List (List Int)} {i k : Nat} (hk : (k : Int) ≤ (ix B i).length) (h0 : 0 < (k : Int)) : fndT t (ix (ix B i) ((k : Int) - 1)) ∈ sixB t B i k := by
  obtain ⟨m, rfl⟩ : ∃ m, k = m + 1 := ⟨k - 1, by omega⟩
  rw [sixB_step (by omega), show (((m + 1 : Nat) : Int) - 1) = (m : Int) by omega]
  simp
theorem prev_ne {t : Tab} {B : List (List Int)} {i k : Nat} (hk : (k : Int) ≤ (ix B i).length) (h0 : (k : Int) > 0) (h1 : ¬ fndT t (ix (ix B i) k) ∈ sixB t B i k) : fndT t (ix (ix B i) ((k : Int) - 1)) ≠ fndT t (ix (ix B i) k) := fun e => h1 (e ▸ prev_in hk h0)
theorem prev_ok {t : Tab} {f : Flt} {B : List (List Int)} {i k : Nat} (h : ∀ j, j < k → idOk t f B i j = true) (h0 : (k : Int) > 0) : 0 ≤ fndT t (ix (ix B i) ((k : Int) - 1)) ∧ fndT t (ix (ix B i) ((k : Int) - 1)) < t.T.length := by
  have := (idOk_k (h (k - 1) (by omega))).1
  rw [show ((k - 1 : Nat) : Int) = (k : Int) - 1 by omega] at this
  exact ⟨this, fndT_bd.2⟩
theorem bk_pos {t : Tab} {f : Flt} {B : List (List Int)} {i : Nat} (h : ∀ j, j < i → bkOk t f B j = true) (h0 : (0 : Int) < i) : 0 < ((ix B ((i : Int) - 1)).length : Int) := by
  have h1 := h (i - 1) (by omega)
  simp only [bkOk, Bool.and_eq_true, decide_eq_true_eq] at h1
  rw [show ((i - 1 : Nat) : Int) = (i : Int) - 1 by omega] at h1
  exact h1.1.1
set_option maxHeartbeats 1000000 in
theorem ct_l11Blocks {e1 e2 : Option TypeId} (t : Tab) (f : Flt) (B : List (List Int)) (hv : tabB t = true) (hf : fltB t.N.S.length f = true) : CT Tryz.prog 80 [.inr (uA bTab t), .inr (uA bFlt f), .inr (uS e1 (pS e2 pI) B)] (.inl (.bool (blkB t f B))) := by
  refine CT_of Tryz.func80 rfl rfl rfl (fun w => ?_)
  have hC := upC_ext w
  have h12 := (tabB_k hv).2.1
  try any_goals ((refine H_seq ?_; try refine H_reg ?_))
  try any_goals (refine W_boxA (d := 3) (sq_stepper hC) rfl rfl rfl ?_)
  try any_goals (refine W_boxA (d := 4) (sq_stepper hC) rfl rfl rfl ?_)
  try any_goals (refine W_assign (d := 6) (sq_stepper hC) rfl rfl rfl ?_)
  try any_goals ((refine Sq_nil ?_; try refine G_then ?_))
  try any_goals (refine H_seq ?_)
  try any_goals (have hE : Ext _ _ := Ext.refl w)
  try any_goals (refine H_open 3 rfl (fun q u3 hw hr3 => ?_); have hE := hE.trans hw)
  try any_goals (refine H_open 4 rfl (fun q u4 hw hr4 => ?_); have hE := hE.trans hw; have hr3 := UR.lift hw hr3)
  try any_goals (refine H_open 2 rfl (fun q u2 hw hr2 => ?_); have hE := hE.trans hw; have hr3 := UR.lift hw hr3; have hr4 := UR.lift hw hr4)
  try any_goals (refine H_weakenC (C' := Sep q []) (fun w' h => sep_start h) ?_; have hC : UpC (Sep q []) := upC_sep)
  try any_goals (have hbl := isS_le hr2; have hbi := isS_le2 hr2)
  try any_goals (refine H_reg ?_)
  try any_goals ((refine Sq_buildS (d := 11) [] pI [] (e := 3) (by kernel_rfl) (by kernel_rfl) rfl rfl (by kernel_rfl) rfl rfl trivial rfl (fun v7 => ?_)))
  try any_goals (refine W_assign (d := 7) (sq_stepper upC_sep) rfl rfl rfl ?_)
  try any_goals ((refine Sq_nil ?_; try refine G_then ?_))
  try any_goals (refine H_seq ?_)
  try any_goals ((refine H_seq ?_; try refine H_reg ?_))
  try any_goals (refine W_assign (d := 8) (sq_stepper upC_sep) rfl rfl rfl ?_)
  try any_goals ((refine Sq_nil ?_; try refine G_then ?_))
  try any_goals (refine H_block ?_)
  try any_goals ((refine H_loop (σ := Nat × Value) (fun x => x.1 ≤ B.length ∧ SxOk t (sixB t B x.1 0) ∧ ∀ j, j < x.1 → bkOk t f B j = true) (fun x => [(2, .inl u2), (3, .inl u3), (4, .inl u4), (7, .inl x.2), (8, .inl (.int .i64 x.1))]) (fun x => Sep q [.sl Int 3 pI (sixB t B x.1 0) x.2]) (fun x => B.length - x.1) (0, v7) ⟨Nat.zero_le _, by rw [sixB_zero]; exact SxOk.nil, fun j hj => absurd hj (Nat.not_lt_zero _)⟩ (fun a w' h => h.sub (by repeat (first | exact trivial | refine ⟨⟨_, rfl, fun _ _ _ h => h⟩, ?_⟩ | refine ⟨⟨_, rfl, fun v w _ h => (show v = _ from h).trans (congrArg (Value.int .i64) (by first | omega | (dsimp only; omega)))⟩, ?_⟩)) (fun w' h => by rw [sixB_zero]; exact h)) (fun x hx => ?_); obtain ⟨i, vi⟩ := x; obtain ⟨hi, hsx, hall⟩ := hx; simp only at hi hsx hall; have hpr := fun (h : (0 : Int) < i) => bk_pos hall h))
  try any_goals (refine H_seq ?_)
  try any_goals ((refine H_seq ?_; try refine H_reg ?_))
  try any_goals (refine W_move (d := 12) (sq_stepper upC_sep) rfl rfl rfl ?_)
  try any_goals (refine W_moveR (d := 13) (sq_stepper upC_sep) (U := uS e1 (pS e2 pI) B) (fun w' h => UR.lift (Sep.ext h) hr2) rfl rfl rfl ?_)
  try any_goals (refine W_len (d := 14) (sq_stepper upC_sep) (by kernel_rfl) rfl rfl rfl ?_)
  try any_goals (refine W_cmp (d := 15) (sq_stepper upC_sep) rfl rfl rfl rfl rfl ?_)
  try any_goals ((refine Sq_nil ?_; try refine G_then ?_))
  try any_goals ((refine H_cond _ rfl (fun hq => ?_) (fun hq => ?_) <;> (try simp only [hqs, reduceCtorEq] at hq)))
  try any_goals (refine H_skip ?_)
  try any_goals (refine H_exit ?_)
  repeat (any_goals (first | refine G_exit_then ?_ | refine G_exit_here ?_ | refine G_exit_far rfl ?_))
  try any_goals (refine G_then ?_)
  try any_goals (refine H_seq ?_)
  try any_goals (refine H_block ?_)
  try any_goals (refine H_seq ?_)
  try any_goals (refine H_seq ?_)
  try any_goals (refine H_draw' (by kernel_rfl) upC_sep ?_)
  try any_goals (refine W_moveR (d := 18) wk_stepper (U := uS e1 (pS e2 pI) B) (fun w' h => UR.lift (Sep.ext h) hr2) rfl rfl rfl ?_)
  try any_goals (refine W_move (d := 19) wk_stepper rfl rfl rfl ?_)
  try any_goals (refine W_index (d := 20) wk_stepper (by kernel_rfl) rfl rfl rfl rfl (by first | omega | (dsimp only; omega)) ?_)
  try any_goals (refine W_loadS (d := 21) wk_stepper (by kernel_rfl) rfl rfl rfl ?_)
  try any_goals (refine W_len (d := 22) wk_stepper (by kernel_rfl) rfl rfl rfl ?_)
  try any_goals (refine W_cmp (d := 23) wk_stepper rfl rfl rfl rfl rfl ?_)
  try any_goals (refine W_move (d := 24) wk_stepper rfl rfl rfl ?_)
  try any_goals ((refine W_splitG wk_stepper _ rfl _ rfl (fun hq => ?_) (fun hq => ?_) <;> ((try simp only [hqs, reduceCtorEq] at hq); try (have hq' := hq; clear hq))))
  try any_goals (first | refine W_skip (d := 25) wk_stepper rfl rfl ?_ | refine W_move (d := 25) wk_stepper rfl rfl rfl ?_)
  try any_goals (first | refine W_skip (d := 26) wk_stepper rfl rfl ?_ | refine W_cmp (d := 26) wk_stepper rfl rfl rfl rfl rfl ?_)
  try any_goals (first | refine W_skip (d := 27) wk_stepper rfl rfl ?_ | refine W_move (d := 27) wk_stepper rfl rfl rfl ?_)
  try any_goals ((refine W_splitG wk_stepper _ rfl _ rfl (fun hq => ?_) (fun hq => ?_) <;> ((try simp only [hqs, reduceCtorEq] at hq); try (have hq' := hq; clear hq))))
  try any_goals (first | refine W_skip (d := 28) wk_stepper rfl rfl ?_ | refine W_moveR (d := 28) wk_stepper (U := uS e1 (pS e2 pI) B) (fun w' h => UR.lift (Sep.ext h) hr2) rfl rfl rfl ?_)
  try any_goals (first | refine W_skip (d := 29) wk_stepper rfl rfl ?_ | refine W_move (d := 29) wk_stepper rfl rfl rfl ?_)
  try any_goals (first | refine W_skip (d := 30) wk_stepper rfl rfl ?_ | refine W_ar (d := 30) wk_stepper rfl rfl rfl rfl rfl (by first | omega | (dsimp only; omega)) ?_)
  try any_goals (first | refine W_skip (d := 31) wk_stepper rfl rfl ?_ | refine W_index (d := 31) wk_stepper (by kernel_rfl) rfl rfl rfl rfl (by first | omega | (dsimp only; omega)) ?_)
  try any_goals (first | refine W_skip (d := 32) wk_stepper rfl rfl ?_ | refine W_loadS (d := 32) wk_stepper (by kernel_rfl) rfl rfl rfl ?_)
  try any_goals (first | refine W_skip (d := 33) wk_stepper rfl rfl ?_ | refine W_index (d := 33) wk_stepper (by kernel_rfl) rfl rfl rfl rfl (by first | omega | (dsimp only; omega)) ?_)
  try any_goals (first | refine W_skip (d := 34) wk_stepper rfl rfl ?_ | refine W_loadI (d := 34) wk_stepper (by kernel_rfl) rfl rfl rfl ?_)
  try any_goals (first | refine W_skip (d := 35) wk_stepper rfl rfl ?_ | refine W_moveR (d := 35) wk_stepper (U := uS e1 (pS e2 pI) B) (fun w' h => UR.lift (Sep.ext h) hr2) rfl rfl rfl ?_)
  try any_goals (first | refine W_skip (d := 36) wk_stepper rfl rfl ?_ | refine W_move (d := 36) wk_stepper rfl rfl rfl ?_)
  try any_goals (first | refine W_skip (d := 37) wk_stepper rfl rfl ?_ | refine W_index (d := 37) wk_stepper (by kernel_rfl) rfl rfl rfl rfl (by first | omega | (dsimp only; omega)) ?_)
  try any_goals (first | refine W_skip (d := 38) wk_stepper rfl rfl ?_ | refine W_loadS (d := 38) wk_stepper (by kernel_rfl) rfl rfl rfl ?_)
  try any_goals (first | refine W_skip (d := 39) wk_stepper rfl rfl ?_ | refine W_index (d := 39) wk_stepper (by kernel_rfl) rfl rfl rfl rfl (by first | omega | (dsimp only; omega)) ?_)
  try any_goals (first | refine W_skip (d := 40) wk_stepper rfl rfl ?_ | refine W_loadI (d := 40) wk_stepper (by kernel_rfl) rfl rfl rfl ?_)
  try any_goals (first | refine W_skip (d := 41) wk_stepper rfl rfl ?_ | refine W_cmp (d := 41) wk_stepper rfl rfl rfl rfl rfl ?_)
  try any_goals (first | refine W_skip (d := 42) wk_stepper rfl rfl ?_ | refine W_pickT (d := 42) wk_stepper rfl rfl rfl rfl ?_ | refine W_pickF (d := 42) wk_stepper rfl rfl rfl rfl ?_)
  try any_goals (first | refine W_pickT (d := 43) wk_stepper rfl rfl rfl rfl ?_ | refine W_pickF (d := 43) wk_stepper rfl rfl rfl rfl ?_)
  try any_goals (refine Wk_end (by kernel_rfl) (by kernel_rfl) ?_)
  try any_goals (refine G_then ?_)
  try any_goals (first | refine H_condT rfl ?_ | refine H_condF rfl ?_ | (refine H_cond _ rfl (fun hq => ?_) (fun hq => ?_) <;> (try simp only [hqs, reduceCtorEq] at hq)))
  try any_goals (first | (refine H_seq ?_; try refine H_reg ?_) | refine H_reg ?_)
  try any_goals (refine W_assign (d := 6) (sq_stepper upC_sep) rfl rfl rfl ?_)
  try any_goals ((refine Sq_nil ?_; try refine G_then ?_))
  try any_goals (refine H_ret ?_)
  repeat (any_goals (first | refine G_ret_then ?_ | refine G_ret_block ?_))
  try any_goals (refine H_skip ?_)
  try any_goals (refine G_then ?_)
  try any_goals ((refine H_seq ?_; try refine H_reg ?_))
  try any_goals (refine W_assign (d := 9) (sq_stepper upC_sep) rfl rfl rfl ?_)
  try any_goals ((refine Sq_nil ?_; try refine G_then ?_))
  try any_goals (refine H_block ?_)
  try any_goals ((refine H_loop (σ := Nat × Value) (fun x => x.1 ≤ (ix B i).length ∧ SxOk t (sixB t B i x.1) ∧ ∀ j, j < x.1 → idOk t f B i j = true) (fun x => [(2, .inl u2), (3, .inl u3), (4, .inl u4), (7, .inl x.2), (8, .inl (.int .i64 i)), (9, .inl (.int .i64 x.1))]) (fun x => Sep q [.sl Int 3 pI (sixB t B i x.1) x.2]) (fun x => (ix B i).length - x.1) (0, vi) ⟨Nat.zero_le _, hsx, fun j hj => absurd hj (Nat.not_lt_zero _)⟩ (fun a w' h => h.sub (by repeat (first | exact trivial | refine ⟨⟨_, rfl, fun _ _ _ h => h⟩, ?_⟩ | refine ⟨⟨_, rfl, fun v w _ h => (show v = _ from h).trans (congrArg (Value.int .i64) (by first | omega | (dsimp only; omega)))⟩, ?_⟩)) (fun w' h => h)) (fun x hx => ?_); obtain ⟨k, vk⟩ := x; obtain ⟨hk1, hsx, hkall⟩ := hx; simp only at hk1 hsx hkall; have hbk := hbi i (by omega) (by omega)))
  try any_goals (refine H_seq ?_)
  try any_goals ((refine H_seq ?_; try refine H_reg ?_))
  try any_goals (refine W_move (d := 44) (sq_stepper upC_sep) rfl rfl rfl ?_)
  try any_goals (refine W_moveR (d := 45) (sq_stepper upC_sep) (U := uS e1 (pS e2 pI) B) (fun w' h => UR.lift (Sep.ext h) hr2) rfl rfl rfl ?_)
  try any_goals (refine W_move (d := 46) (sq_stepper upC_sep) rfl rfl rfl ?_)
  try any_goals (refine W_index (d := 47) (sq_stepper upC_sep) (by kernel_rfl) rfl rfl rfl rfl (by first | omega | (dsimp only; omega)) ?_)
  try any_goals (refine W_loadS (d := 48) (sq_stepper upC_sep) (by kernel_rfl) rfl rfl rfl ?_)
  try any_goals (refine W_len (d := 49) (sq_stepper upC_sep) (by kernel_rfl) rfl rfl rfl ?_)
  try any_goals (refine W_cmp (d := 50) (sq_stepper upC_sep) rfl rfl rfl rfl rfl ?_)
  try any_goals ((refine Sq_nil ?_; try refine G_then ?_))
  try any_goals ((refine H_cond _ rfl (fun hq => ?_) (fun hq => ?_) <;> (try simp only [hqs, reduceCtorEq] at hq)))
  try any_goals (refine H_skip ?_)
  try any_goals (refine H_exit ?_)
  repeat (any_goals (first | refine G_exit_then ?_ | refine G_exit_here ?_ | refine G_exit_far rfl ?_))
  try any_goals (refine G_then ?_)
  try any_goals (refine H_seq ?_)
  try any_goals (refine H_block ?_)
  try any_goals (refine H_seq ?_)
  try any_goals (refine H_draw' (by kernel_rfl) upC_sep ?_)
  try any_goals (refine W_loadUP (d := 53) wk_stepper (fun w' h => UR.lift (Sep.ext h) hr3) (by kernel_rfl) rfl rfl rfl ?_)
  try any_goals (refine W_moveR (d := 54) wk_stepper (U := uS e1 (pS e2 pI) B) (fun w' h => UR.lift (Sep.ext h) hr2) rfl rfl rfl ?_)
  try any_goals (refine W_move (d := 55) wk_stepper rfl rfl rfl ?_)
  try any_goals (refine W_index (d := 56) wk_stepper (by kernel_rfl) rfl rfl rfl rfl (by first | omega | (dsimp only; omega)) ?_)
  try any_goals (refine W_loadS (d := 57) wk_stepper (by kernel_rfl) rfl rfl rfl ?_)
  try any_goals (refine W_move (d := 58) wk_stepper rfl rfl rfl ?_)
  try any_goals (refine W_index (d := 59) wk_stepper (by kernel_rfl) rfl rfl rfl rfl (by first | omega | (dsimp only; omega)) ?_)
  try any_goals (refine W_loadI (d := 60) wk_stepper (by kernel_rfl) rfl rfl rfl ?_)
  try any_goals (refine W_ct (d := 61) wk_stepper (ct_l5Find _ _) rfl rfl rfl (by kernel_rfl) ?_)
  try any_goals (refine Wk_assign (by kernel_rfl) (by kernel_rfl) ?_)
  try any_goals (refine W_assign (d := 10) (sq_stepper upC_sep) rfl rfl rfl ?_)
  try any_goals ((refine Sq_nil ?_; try refine G_then ?_))
  try any_goals (refine H_seq ?_)
  try any_goals (refine H_seq ?_)
  try any_goals (refine H_draw' (by kernel_rfl) upC_sep ?_)
  try any_goals (refine W_move (d := 62) wk_stepper rfl rfl rfl ?_)
  try any_goals (refine W_cmp (d := 63) wk_stepper rfl rfl rfl rfl rfl ?_)
  try any_goals (refine W_move (d := 64) wk_stepper rfl rfl rfl ?_)
  try any_goals ((refine W_splitG wk_stepper _ rfl _ rfl (fun hq => ?_) (fun hq => ?_) <;> ((try simp only [hqs, reduceCtorEq] at hq); try (have hq' := hq; clear hq))))
  try any_goals (first | refine W_skip (d := 65) wk_stepper rfl rfl ?_ | refine W_moveR (d := 65) wk_stepper (U := uS (some 3) pI (sixB t B i k)) (fun w' h => Sep.isS (m := 0) h rfl) rfl rfl rfl ?_)
  try any_goals (first | refine W_skip (d := 66) wk_stepper rfl rfl ?_ | refine W_move (d := 66) wk_stepper rfl rfl rfl ?_)
  try any_goals (first | refine W_skip (d := 67) wk_stepper rfl rfl ?_ | refine W_ct (d := 67) wk_stepper (ct_l1Has _ _) rfl rfl rfl (by kernel_rfl) ?_)
  try any_goals (first | refine W_pickT (d := 68) wk_stepper rfl rfl rfl rfl ?_ | refine W_pickF (d := 68) wk_stepper rfl rfl rfl rfl ?_)
  try any_goals (refine W_move (d := 69) wk_stepper rfl rfl rfl ?_)
  try any_goals ((refine W_splitG wk_stepper _ rfl _ rfl (fun hq => ?_) (fun hq => ?_) <;> ((try simp only [hqs, reduceCtorEq] at hq); try (have hq' := hq; clear hq))))
  try any_goals (first | refine W_skip (d := 70) wk_stepper rfl rfl ?_ | refine W_move (d := 70) wk_stepper rfl rfl rfl ?_)
  try any_goals (first | refine W_skip (d := 71) wk_stepper rfl rfl ?_ | refine W_cmp (d := 71) wk_stepper rfl rfl rfl rfl rfl ?_)
  try any_goals (first | refine W_skip (d := 72) wk_stepper rfl rfl ?_ | refine W_move (d := 72) wk_stepper rfl rfl rfl ?_)
  try any_goals ((refine W_splitG wk_stepper _ rfl _ rfl (fun hq => ?_) (fun hq => ?_) <;> ((try simp only [hqs, reduceCtorEq] at hq); try (have hq' := hq; clear hq))))
  try any_goals (first | refine W_skip (d := 73) wk_stepper rfl rfl ?_ | refine W_loadUP (d := 73) wk_stepper (fun w' h => UR.lift (Sep.ext h) hr3) (by kernel_rfl) rfl rfl rfl ?_)
  try any_goals (first | refine W_skip (d := 74) wk_stepper rfl rfl ?_ | refine W_loadUP (d := 74) wk_stepper (fun w' h => UR.lift (Sep.ext h) hr4) (by kernel_rfl) rfl rfl rfl ?_)
  try any_goals (first | refine W_skip (d := 75) wk_stepper rfl rfl ?_ | refine W_loadUP (d := 75) wk_stepper (fun w' h => UR.lift (Sep.ext h) hr3) (by kernel_rfl) rfl rfl rfl ?_)
  try any_goals (first | refine W_skip (d := 76) wk_stepper rfl rfl ?_ | refine W_moveR (d := 76) wk_stepper (U := uS e1 (pS e2 pI) B) (fun w' h => UR.lift (Sep.ext h) hr2) rfl rfl rfl ?_)
  try any_goals (first | refine W_skip (d := 77) wk_stepper rfl rfl ?_ | refine W_move (d := 77) wk_stepper rfl rfl rfl ?_)
  try any_goals (first | refine W_skip (d := 78) wk_stepper rfl rfl ?_ | refine W_index (d := 78) wk_stepper (by kernel_rfl) rfl rfl rfl rfl (by first | omega | (dsimp only; omega)) ?_)
  try any_goals (first | refine W_skip (d := 79) wk_stepper rfl rfl ?_ | refine W_loadS (d := 79) wk_stepper (by kernel_rfl) rfl rfl rfl ?_)
  try any_goals (first | refine W_skip (d := 80) wk_stepper rfl rfl ?_ | refine W_move (d := 80) wk_stepper rfl rfl rfl ?_)
  try any_goals (first | refine W_skip (d := 81) wk_stepper rfl rfl ?_ | refine W_ar (d := 81) wk_stepper rfl rfl rfl rfl rfl (by first | omega | (dsimp only; omega)) ?_)
  try any_goals (first | refine W_skip (d := 82) wk_stepper rfl rfl ?_ | refine W_index (d := 82) wk_stepper (by kernel_rfl) rfl rfl rfl rfl (by first | omega | (dsimp only; omega)) ?_)
  try any_goals (first | refine W_skip (d := 83) wk_stepper rfl rfl ?_ | refine W_loadI (d := 83) wk_stepper (by kernel_rfl) rfl rfl rfl ?_)
  try any_goals (first | refine W_skip (d := 84) wk_stepper rfl rfl ?_ | refine W_ct (d := 84) wk_stepper (ct_l5Find _ _) rfl rfl rfl (by kernel_rfl) ?_)
  try any_goals (first | refine W_skip (d := 85) wk_stepper rfl rfl ?_ | refine W_move (d := 85) wk_stepper rfl rfl rfl ?_)
  try any_goals (first | refine W_skip (d := 86) wk_stepper rfl rfl ?_ | refine W_ct (d := 86) wk_stepper (ct_l11Follows _ _ _ _ hv hf (prev_ok hkall (by omega)) ⟨by omega, fndT_bd.2⟩ (prev_ne (k := k) (by omega) (by omega) (by assumption))) rfl rfl rfl (by kernel_rfl) ?_)
  try any_goals (first | refine W_skip (d := 87) wk_stepper rfl rfl ?_ | refine W_not (d := 87) wk_stepper rfl rfl rfl ?_)
  try any_goals (first | refine W_skip (d := 88) wk_stepper rfl rfl ?_ | refine W_pickT (d := 88) wk_stepper rfl rfl rfl rfl ?_ | refine W_pickF (d := 88) wk_stepper rfl rfl rfl rfl ?_)
  try any_goals (first | refine W_pickT (d := 89) wk_stepper rfl rfl rfl rfl ?_ | refine W_pickF (d := 89) wk_stepper rfl rfl rfl rfl ?_)
  try any_goals (refine Wk_end (by kernel_rfl) (by kernel_rfl) ?_)
  try any_goals (refine G_then ?_)
  try any_goals (first | refine H_condT rfl ?_ | refine H_condF rfl ?_ | (refine H_cond _ rfl (fun hq => ?_) (fun hq => ?_) <;> (try simp only [hqs, reduceCtorEq] at hq)))
  try any_goals (first | (refine H_seq ?_; try refine H_reg ?_) | refine H_reg ?_)
  try any_goals (refine W_assign (d := 6) (sq_stepper upC_sep) rfl rfl rfl ?_)
  try any_goals ((refine Sq_nil ?_; try refine G_then ?_))
  try any_goals (refine H_ret ?_)
  repeat (any_goals (first | refine G_ret_then ?_ | refine G_ret_block ?_))
  try any_goals (refine H_skip ?_)
  try any_goals (refine G_then ?_)
  try any_goals (refine H_reg ?_)
  try any_goals (refine W_move (d := 90) (sq_stepper upC_sep) rfl rfl rfl ?_)
  try any_goals (refine W_move (d := 91) (sq_stepper upC_sep) rfl rfl rfl ?_)
  try any_goals (refine W_buildS (d := 92) (sq_stepper upC_sep) [(Operand.tmp 91)] pI [_] (e := 3) (by kernel_rfl) (by kernel_rfl) rfl rfl (by kernel_rfl) rfl rfl rfl ⟨elem_I, trivial⟩ ?_)
  try any_goals ((refine Sq_appS (d := 93) 0 (Ψ := pI) rfl ⟨trivial, trivial⟩ (by kernel_rfl) (by kernel_rfl) rfl rfl rfl ⟨by have := hsx.le; simp only [List.length_cons, List.length_nil]; omega, by simp⟩ (fun va => ?_)))
  try any_goals (refine W_assign (d := 7) (sq_stepper upC_sep) rfl rfl rfl ?_)
  try any_goals (refine Sq_nil ?_)
  repeat (any_goals (first | refine G_exit_then ?_ | refine G_exit_here ?_ | refine G_exit_far rfl ?_ | refine G_normal_block ?_))
  try any_goals (refine G_then ?_)
  try any_goals (refine H_reg ?_)
  try any_goals (refine W_move (d := 51) (sq_stepper upC_sep) rfl rfl rfl ?_)
  try any_goals (refine W_ar (d := 52) (sq_stepper upC_sep) rfl rfl rfl rfl rfl (by first | omega | (dsimp only; omega)) ?_)
  try any_goals (refine W_assign (d := 9) (sq_stepper upC_sep) rfl rfl rfl ?_)
  try any_goals (refine Sq_nil ?_)
  try any_goals (refine G_again (k + 1, va) ⟨by simp only; omega, ?_, ?_⟩ (by simp only; omega) (by repeat (first | exact trivial | refine ⟨⟨_, rfl, fun _ _ _ h => h⟩, ?_⟩ | refine ⟨⟨_, rfl, fun v w _ h => (show v = _ from h).trans (congrArg (Value.int .i64) (by first | omega | (dsimp only; omega)))⟩, ?_⟩)) (fun w' h => ?_))
  repeat (any_goals (first | refine G_exit_then ?_ | refine G_exit_here ?_ | refine G_exit_far rfl ?_ | refine G_normal_block ?_))
  repeat (any_goals (first | refine G_exit_then ?_ | refine G_exit_here ?_ | refine G_exit_far rfl ?_ | refine G_normal_block ?_))
  try any_goals (refine W_move (d := 16) (sq_stepper upC_sep) rfl rfl rfl ?_)
  try any_goals (refine W_ar (d := 17) (sq_stepper upC_sep) rfl rfl rfl rfl rfl (by first | omega | (dsimp only; omega)) ?_)
  try any_goals (refine W_assign (d := 8) (sq_stepper upC_sep) rfl rfl rfl ?_)
  try any_goals (refine Sq_nil ?_)
  try any_goals (refine G_again (i + 1, vk) ⟨by simp only; omega, ?_, ?_⟩ (by simp only; omega) (by repeat (first | exact trivial | refine ⟨⟨_, rfl, fun _ _ _ h => h⟩, ?_⟩ | refine ⟨⟨_, rfl, fun v w _ h => (show v = _ from h).trans (congrArg (Value.int .i64) (by first | omega | (dsimp only; omega)))⟩, ?_⟩)) (fun w' h => ?_))
  repeat (any_goals (first | refine G_exit_then ?_ | refine G_exit_here ?_ | refine G_exit_far rfl ?_ | refine G_normal_block ?_))
  try any_goals (refine W_move (d := 94) (sq_stepper upC_sep) rfl rfl rfl ?_)
  try any_goals (refine W_lenS (d := 95) 0 (sq_stepper upC_sep) rfl (by kernel_rfl) rfl rfl rfl ?_)
  try any_goals (refine W_fieldUP (d := 96) (sq_stepper upC_sep) (fun w' h => UR.lift (Sep.ext h) hr3) (Proj.tail _ _ (Proj.head _ _ _)) (by kernel_rfl) rfl rfl rfl ?_)
  try any_goals (refine W_loadS (d := 97) (sq_stepper upC_sep) (by kernel_rfl) rfl rfl rfl ?_)
  try any_goals (refine W_len (d := 98) (sq_stepper upC_sep) (by kernel_rfl) rfl rfl rfl ?_)
  try any_goals (refine W_cmp (d := 99) (sq_stepper upC_sep) rfl rfl rfl rfl rfl ?_)
  try any_goals (refine W_assign (d := 6) (sq_stepper upC_sep) rfl rfl rfl ?_)
  try any_goals ((refine Sq_nil ?_; try refine G_then ?_))
  try any_goals (refine H_ret ?_)
  repeat (any_goals (first | refine G_ret_then ?_ | refine G_ret_block ?_))
  all_goals (try dsimp only)
  all_goals first
    | exact R1v rfl (fun _ h => hE.trans h.ext) rfl (congrArg Value.bool (blkB_f (i := i) (by omega) (bkOk_f (.inl (by omega)))).symm)
    | exact R1v rfl (fun _ h => hE.trans h.ext) rfl (congrArg Value.bool (blkB_f (i := i) (by omega) (bkOk_f (.inr (by omega)))).symm)
    | exact R1v rfl (fun _ h => hE.trans h.ext) rfl (congrArg Value.bool (blkB_f (i := i) (by omega) (bkOk_f2 (k := k) (by omega) (idOk_f (.inl (by omega))))).symm)
    | exact R1v rfl (fun _ h => hE.trans h.ext) rfl (congrArg Value.bool (blkB_f (i := i) (by omega) (bkOk_f2 (k := k) (by omega) (idOk_f (.inr (by assumption))))).symm)
    | exact R1v rfl (fun _ h => hE.trans h.ext) rfl (congrArg Value.bool (blkB_f (i := i) (by omega) (bkOk_f2 (k := k) (by omega) (idOk_f2 (by omega) (by assumption)))).symm)
    | exact R1v rfl (fun _ h => hE.trans h.ext) rfl (congrArg Value.bool (blkB_e (by omega) hall))
    | exact hsx.step (by omega) (by omega) (by assumption)
    | exact alln_step hkall (idOk_t (by omega) (by assumption) (.inl (by omega)))
    | exact alln_step hkall (idOk_t (by omega) (by assumption) (.inr (by assumption)))
    | (rw [sixB_step (by omega)]; exact h)
    | (rw [sixB_next (k := k) (by omega) (by omega)]; exact hsx)
    | (rw [sixB_next (k := k) (by omega) (by omega)]; exact h)
    | exact alln_step hall (bkOk_t (k := k) (by omega) (by omega) (by omega) hkall)
    | trace_state
/-! The array of the trips seen. -/
def bitsN (n : Nat) (S : List Int) : List Value := (List.range n).map fun v : Nat => .bool (decide ((v : Int) ∈ S))
theorem bitsN_nil {n : Nat} : bitsN n [] = List.replicate n (.bool false) := by simp [bitsN, List.map_const']
theorem bitsN_len {n : Nat} (S : List Int) : (bitsN n S).length = n := by simp [bitsN]
theorem bitsN_get {n : Nat} {S : List Int} {v : Int} (h : 0 ≤ v ∧ v < n) : (bitsN n S)[0 + v.toNat * 1]? = some (.bool (decide (v ∈ S))) := by
  rw [bitsN, List.getElem?_map, List.getElem?_range (by omega), Option.map_some, show ((0 + v.toNat * 1 : Nat) : Int) = v by omega]
theorem bitsN_put {n : Nat} {S : List Int} {v : Int} (h : 0 ≤ v ∧ v < n) : putL (bitsN n S) (0 + v.toNat * 1) [.bool true] = bitsN n (S ++ [v]) := by
  apply List.ext_getElem?
  intro j
  by_cases hj : j < n
  · have hr : (bitsN n (S ++ [v]))[j]? = some (.bool (decide ((j : Int) ∈ S ++ [v]))) := by rw [bitsN, List.getElem?_map, List.getElem?_range hj, Option.map_some]
    have hl : (bitsN n S)[j]? = some (.bool (decide ((j : Int) ∈ S))) := by rw [bitsN, List.getElem?_map, List.getElem?_range hj, Option.map_some]
    rw [hr]
    by_cases e : j = v.toNat
    · subst e
      have := putL_in (cs := bitsN n S) (o := 0 + v.toNat * 1) (vs := [Value.bool true]) (j := 0) (u := .bool true) (by rw [bitsN_len]; simp; omega) rfl
      rw [show 0 + v.toNat * 1 + 0 = v.toNat by omega] at this
      rw [this, decide_eq_true (by simp; right; omega)]
    · rw [putL_out (by rw [bitsN_len]; simp; omega) (by simp; omega), hl]
      simp only [List.mem_append, List.mem_singleton]
      congr 3
      exact propext ⟨Or.inl, fun h => h.resolve_right (by omega)⟩
  · rw [List.getElem?_eq_none (by rw [putL_length (by rw [bitsN_len]; simp; omega), bitsN_len]; omega), List.getElem?_eq_none (by rw [bitsN_len]; omega)]
attribute [local irreducible] bitsN
theorem tr_ok {t : Tab} (hv : tabB t = true) {a : Int} (h : 0 ≤ a ∧ a < t.T.length) : (0 ≤ (ix t.T a).L ∧ (ix t.T a).L < t.N.L.length) ∧ (0 ≤ (ix t.T a).S ∧ (ix t.T a).S ≤ 1799) ∧ (0 ≤ endT t (ix t.T a) ∧ endT t (ix t.T a) ≤ 1799) := by
  have h1 := tabB_at hv h.1 h.2
  exact ⟨by omega, by omega, h1.2.2.2.1⟩
theorem blk_last {t : Tab} {B : List (List Int)} {i : Nat} {last : Int} (hv : tabB t = true) (h0 : i = 0 → last = 0) (h1 : ¬ i = 0 → last = ix (ix B ((i : Int) - 1)) 0) (hl : ix (ix B i) 0 ≤ last) (hp : 0 < ((ix B i).length : Int)) {f : Flt} : bkOk t f B i = false := by
  by_cases e : i = 0
  · have := h0 e
    refine bkOk_f2 (k := 0) (by omega) (idOk_f (.inl ?_))
    have hb := fndT_bd (t := t) (id := ix (ix B i) (0 : Nat))
    rcases Int.lt_or_le (fndT t (ix (ix B i) (0 : Nat))) 0 with h | h
    · exact h
    · have := fndT_pos hv h
      simp only [Int.natCast_zero] at this ⊢
      omega
  · exact bkOk_f (.inr ⟨by omega, by rw [← h1 e]; omega⟩)
set_option maxHeartbeats 1000000 in
theorem ct_areBlocks {e1 e2 : Option TypeId} (t : Tab) (f : Flt) (B : List (List Int)) (hv : tabB t = true) (hf : fltB t.N.S.length f = true) : CT Tryz.prog 89 [.inr (uA bTab t), .inr (uA bFlt f), .inr (uS e1 (pS e2 pI) B)] (.inl (.bool (blkB t f B))) := by
  refine CT_of Tryz.func89 rfl rfl rfl (fun w => ?_)
  have hC := upC_ext w
  have h12 := (tabB_k hv).2.1
  try any_goals ((refine H_seq ?_; try refine H_reg ?_))
  try any_goals (refine W_boxA (d := 3) (sq_stepper hC) rfl rfl rfl ?_)
  try any_goals (refine W_boxA (d := 4) (sq_stepper hC) rfl rfl rfl ?_)
  try any_goals (refine W_assign (d := 6) (sq_stepper hC) rfl rfl rfl ?_)
  try any_goals ((refine Sq_nil ?_; try refine G_then ?_))
  try any_goals (refine H_seq ?_)
  try any_goals (have hE : Ext _ _ := Ext.refl w)
  try any_goals (refine H_open 3 rfl (fun q u3 hw hr3 => ?_); have hE := hE.trans hw)
  try any_goals (refine H_open 4 rfl (fun q u4 hw hr4 => ?_); have hE := hE.trans hw; have hr3 := UR.lift hw hr3)
  try any_goals (refine H_open 2 rfl (fun q u2 hw hr2 => ?_); have hE := hE.trans hw; have hr3 := UR.lift hw hr3; have hr4 := UR.lift hw hr4)
  try any_goals (refine H_weakenC (C' := Sep q []) (fun w' h => sep_start h) ?_; have hC : UpC (Sep q []) := upC_sep)
  try any_goals (have hbl := isS_le hr2; have hbi := isS_le2 hr2)
  try any_goals (obtain ⟨us, hul, hus, hrow⟩ := isS_vals hr2)
  try any_goals (refine H_reg ?_)
  try any_goals (refine Sq_allocZ (d := 7) (n := 12) (bitsN 12 []) (bitsN_nil ▸ (by kernel_rfl)) (by kernel_rfl) rfl (fun ga => ?_))
  try any_goals ((refine Sq_nil ?_; try refine G_then ?_))
  try any_goals ((refine H_seq ?_; try refine H_reg ?_))
  try any_goals (refine W_assign (d := 8) (sq_stepper upC_sep) rfl rfl rfl ?_)
  try any_goals (refine W_assign (d := 9) (sq_stepper upC_sep) rfl rfl rfl ?_)
  try any_goals ((refine Sq_nil ?_; try refine G_then ?_))
  try any_goals (refine H_seq ?_)
  try any_goals ((refine H_seq ?_; try refine H_reg ?_))
  try any_goals (refine W_move (d := 15) (sq_stepper upC_sep) rfl rfl rfl ?_)
  try any_goals (refine W_lenR (d := 16) (sq_stepper upC_sep) (xs := B) (fun w' h => UR.lift (Sep.ext h) hr2) (by kernel_rfl) rfl rfl rfl ?_)
  try any_goals (refine W_move (d := 17) (sq_stepper upC_sep) rfl rfl rfl ?_)
  try any_goals ((refine Sq_nil ?_; try refine G_then ?_))
  try any_goals (refine H_block ?_)
  try any_goals ((refine H_loop (σ := Nat × Int) (fun x => x.1 ≤ B.length ∧ SxOk t (sixB t B x.1 0) ∧ (∀ j, j < x.1 → bkOk t f B j = true) ∧ (x.1 = 0 → x.2 = 0) ∧ (¬ x.1 = 0 → x.2 = ix (ix B ((x.1 : Int) - 1)) 0)) (fun x => [(3, .inl u3), (4, .inl u4), (7, .inl (.pointer (some ⟨ga, 0, none⟩))), (8, .inl (.int .i64 (sixB t B x.1 0).length)), (9, .inl (.int .i64 x.2)), (15, .inl u2), (16, .inl (.int .i64 B.length)), (17, .inl (.int .i64 x.1))]) (fun x => Sep q [.raw 128 ga (bitsN 12 (sixB t B x.1 0))]) (fun x => B.length - x.1) (0, 0) ⟨Nat.zero_le _, by rw [sixB_zero]; exact SxOk.nil, (fun j hj => absurd hj (Nat.not_lt_zero _)), (fun _ => rfl), fun h => absurd rfl h⟩ (fun a w' h => by rw [sixB_zero]; exact h.sub (by repeat (first | exact trivial | refine ⟨⟨_, rfl, fun _ _ _ h => h⟩, ?_⟩ | refine ⟨⟨_, rfl, fun v w _ h => (show v = _ from h).trans (congrArg (Value.int .i64) (by first | omega | (dsimp only; omega)))⟩, ?_⟩)) (fun w' h => h)) (fun x hx => ?_); obtain ⟨i, last⟩ := x; obtain ⟨hi, hsx, hall, hl0, hl1⟩ := hx; simp only at hi hsx hall hl0 hl1))
  try any_goals ((refine H_seq ?_; try refine H_reg ?_))
  try any_goals (refine W_cmp (d := 18) (sq_stepper upC_sep) rfl rfl rfl rfl rfl ?_)
  try any_goals ((refine Sq_nil ?_; try refine G_then ?_))
  try any_goals (refine H_seq ?_)
  try any_goals ((refine H_cond _ rfl (fun hq => ?_) (fun hq => ?_) <;> (try simp only [hqs, reduceCtorEq] at hq)))
  try any_goals (skip)
  try any_goals (refine H_skip ?_)
  try any_goals (refine H_exit ?_)
  repeat (any_goals (first | refine G_exit_then ?_ | refine G_exit_here ?_ | refine G_exit_far rfl ?_))
  try any_goals (refine G_then ?_)
  try any_goals (refine H_seq ?_)
  try any_goals (refine H_block ?_)
  try any_goals (first | (refine H_seq ?_; try refine H_reg ?_) | refine H_reg ?_)
  try any_goals (refine W_indexR (d := 19) (sq_stepper upC_sep) (Φ := pV) (xs := us) (fun w' h => IsS.up (Sep.ext h) hus) (by kernel_rfl) rfl rfl rfl rfl (by omega) ?_)
  try any_goals (refine W_loadV (d := 20) (sq_stepper upC_sep) (by kernel_rfl) rfl rfl rfl ?_)
  try any_goals (refine W_assign (d := 11) (sq_stepper upC_sep) rfl rfl rfl ?_)
  try any_goals ((refine Sq_nil ?_; try refine G_then ?_))
  try any_goals (refine H_seq ?_)
  try any_goals ((refine H_seq ?_; try refine H_reg ?_))
  try any_goals (refine W_move (d := 21) (sq_stepper upC_sep) rfl rfl rfl ?_)
  try any_goals (refine W_lenR (d := 22) (sq_stepper upC_sep) (xs := ix B i) (fun w' h => IsS.up (Sep.ext h) (hrow i (by omega))) (by kernel_rfl) rfl rfl rfl ?_)
  try any_goals (refine W_cmp (d := 23) (sq_stepper upC_sep) rfl rfl rfl rfl rfl ?_)
  try any_goals (refine W_move (d := 24) (sq_stepper upC_sep) rfl rfl rfl ?_)
  try any_goals ((refine W_splitG (sq_stepper upC_sep) _ rfl _ rfl (fun hq => ?_) (fun hq => ?_) <;> ((try simp only [hqs, reduceCtorEq] at hq); try (have hq' := hq; clear hq))))
  try any_goals (first | refine W_skip (d := 25) (sq_stepper upC_sep) rfl rfl ?_ | refine W_move (d := 25) (sq_stepper upC_sep) rfl rfl rfl ?_)
  try any_goals (first | refine W_skip (d := 26) (sq_stepper upC_sep) rfl rfl ?_ | refine W_indexR (d := 26) (sq_stepper upC_sep) (xs := ix B i) (fun w' h => IsS.up (Sep.ext h) (hrow i (by omega))) (by kernel_rfl) rfl rfl rfl rfl (by omega) ?_)
  try any_goals (first | refine W_skip (d := 27) (sq_stepper upC_sep) rfl rfl ?_ | refine W_loadI (d := 27) (sq_stepper upC_sep) (by kernel_rfl) rfl rfl rfl ?_)
  try any_goals (first | refine W_skip (d := 28) (sq_stepper upC_sep) rfl rfl ?_ | refine W_move (d := 28) (sq_stepper upC_sep) rfl rfl rfl ?_)
  try any_goals (first | refine W_skip (d := 29) (sq_stepper upC_sep) rfl rfl ?_ | refine W_cmp (d := 29) (sq_stepper upC_sep) rfl rfl rfl rfl rfl ?_)
  try any_goals (first | refine W_pickT (d := 30) (sq_stepper upC_sep) rfl rfl rfl rfl ?_ | refine W_pickF (d := 30) (sq_stepper upC_sep) rfl rfl rfl rfl ?_)
  try any_goals ((refine Sq_nil ?_; try refine G_then ?_))
  try any_goals (first | refine H_condT rfl ?_ | (refine H_cond _ rfl (fun hq => ?_) (fun hq => ?_) <;> (try simp only [hqs, reduceCtorEq] at hq)))
  try any_goals (skip)
  try any_goals ((refine H_seq ?_; try refine H_reg ?_))
  try any_goals (refine W_assign (d := 6) (sq_stepper upC_sep) rfl rfl rfl ?_)
  try any_goals ((refine Sq_nil ?_; try refine G_then ?_))
  try any_goals (refine H_ret ?_)
  repeat (any_goals (first | refine G_ret_then ?_ | refine G_ret_block ?_))
  try any_goals (refine H_skip ?_)
  try any_goals (refine G_then ?_)
  try any_goals ((refine H_seq ?_; try refine H_reg ?_))
  try any_goals (refine W_move (d := 31) (sq_stepper upC_sep) rfl rfl rfl ?_)
  try any_goals (refine W_indexR (d := 32) (sq_stepper upC_sep) (xs := ix B i) (fun w' h => IsS.up (Sep.ext h) (hrow i (by omega))) (by kernel_rfl) rfl rfl rfl rfl (by omega) ?_)
  try any_goals (refine W_loadI (d := 33) (sq_stepper upC_sep) (by kernel_rfl) rfl rfl rfl ?_)
  try any_goals (refine W_assign (d := 9) (sq_stepper upC_sep) rfl rfl rfl ?_)
  try any_goals ((refine Sq_nil ?_; try refine G_then ?_))
  try any_goals ((refine H_seq ?_; try refine H_reg ?_))
  try any_goals (refine W_move (d := 34) (sq_stepper upC_sep) rfl rfl rfl ?_)
  try any_goals (refine W_lenR (d := 35) (sq_stepper upC_sep) (xs := ix B i) (fun w' h => IsS.up (Sep.ext h) (hrow i (by omega))) (by kernel_rfl) rfl rfl rfl ?_)
  try any_goals (refine W_move (d := 36) (sq_stepper upC_sep) rfl rfl rfl ?_)
  try any_goals ((refine Sq_nil ?_; try refine G_then ?_))
  try any_goals (refine H_block ?_)
  try any_goals ((refine H_loop (σ := Nat) (fun k => k ≤ (ix B i).length ∧ SxOk t (sixB t B i k) ∧ ∀ j, j < k → idOk t f B i j = true) (fun k => [(3, .inl u3), (4, .inl u4), (7, .inl (.pointer (some ⟨ga, 0, none⟩))), (8, .inl (.int .i64 (sixB t B i k).length)), (9, .inl (.int .i64 (ix (ix B i) 0))), (11, .inl (ix us i)), (15, .inl u2), (16, .inl (.int .i64 B.length)), (17, .inl (.int .i64 i)), (34, .inl (ix us i)), (35, .inl (.int .i64 (ix B i).length)), (36, .inl (.int .i64 k))]) (fun k => Sep q [.raw 128 ga (bitsN 12 (sixB t B i k))]) (fun k => (ix B i).length - k) 0 ⟨Nat.zero_le _, hsx, fun j hj => absurd hj (Nat.not_lt_zero _)⟩ (fun a w' h => h.sub (by repeat (first | exact trivial | refine ⟨⟨_, rfl, fun _ _ _ h => h⟩, ?_⟩ | refine ⟨⟨_, rfl, fun v w _ h => (show v = _ from h).trans (congrArg (Value.int .i64) (by first | omega | (dsimp only; omega)))⟩, ?_⟩)) (fun w' h => h)) (fun k hx => ?_); obtain ⟨hk1, hsx, hkall⟩ := hx; have hbk := hbi i (by omega) (by omega); have hle := hsx.le))
  try any_goals ((refine H_seq ?_; try refine H_reg ?_))
  try any_goals (refine W_cmp (d := 37) (sq_stepper upC_sep) rfl rfl rfl rfl rfl ?_)
  try any_goals ((refine Sq_nil ?_; try refine G_then ?_))
  try any_goals (refine H_seq ?_)
  try any_goals ((refine H_cond _ rfl (fun hq => ?_) (fun hq => ?_) <;> (try simp only [hqs, reduceCtorEq] at hq)))
  try any_goals (first | ((have htb := fndT_bd (t := t) (id := ix (ix B i) k))) | skip)
  try any_goals (refine H_skip ?_)
  try any_goals (refine H_exit ?_)
  repeat (any_goals (first | refine G_exit_then ?_ | refine G_exit_here ?_ | refine G_exit_far rfl ?_))
  try any_goals (refine G_then ?_)
  try any_goals (refine H_seq ?_)
  try any_goals (refine H_block ?_)
  try any_goals (first | (refine H_seq ?_; try refine H_reg ?_) | refine H_reg ?_)
  try any_goals (refine W_move (d := 38) (sq_stepper upC_sep) rfl rfl rfl ?_)
  try any_goals (refine W_indexR (d := 39) (sq_stepper upC_sep) (xs := ix B i) (fun w' h => IsS.up (Sep.ext h) (hrow i (by omega))) (by kernel_rfl) rfl rfl rfl rfl (by omega) ?_)
  try any_goals (refine W_loadI (d := 40) (sq_stepper upC_sep) (by kernel_rfl) rfl rfl rfl ?_)
  try any_goals (refine W_assign (d := 12) (sq_stepper upC_sep) rfl rfl rfl ?_)
  try any_goals (refine W_assign (d := 13) (sq_stepper upC_sep) rfl rfl rfl ?_)
  try any_goals ((refine Sq_nil ?_; try refine G_then ?_))
  try any_goals ((refine H_seq ?_; try refine H_reg ?_))
  try any_goals (refine W_loadUP (d := 41) (sq_stepper upC_sep) (fun w' h => UR.lift (Sep.ext h) hr3) (by kernel_rfl) rfl rfl rfl ?_)
  try any_goals (refine W_move (d := 42) (sq_stepper upC_sep) rfl rfl rfl ?_)
  try any_goals (refine W_ct (d := 43) (sq_stepper upC_sep) (ct_tripIndex _ _) rfl rfl rfl (by kernel_rfl) ?_)
  try any_goals (refine W_assign (d := 14) (sq_stepper upC_sep) rfl rfl rfl ?_)
  try any_goals ((refine Sq_nil ?_; try refine G_then ?_))
  try any_goals (refine H_seq ?_)
  try any_goals (refine H_seq ?_)
  try any_goals (refine H_draw' (by kernel_rfl) upC_sep ?_)
  try any_goals (refine W_move (d := 44) wk_stepper rfl rfl rfl ?_)
  try any_goals (refine W_cmp (d := 45) wk_stepper rfl rfl rfl rfl rfl ?_)
  try any_goals (refine W_move (d := 46) wk_stepper rfl rfl rfl ?_)
  try any_goals ((refine W_splitG wk_stepper _ rfl _ rfl (fun hq => ?_) (fun hq => ?_) <;> ((try simp only [hqs, reduceCtorEq] at hq); try (have hq' := hq; clear hq))))
  try any_goals (first | refine W_skip (d := 47) wk_stepper rfl rfl ?_ | refine W_move (d := 47) wk_stepper rfl rfl rfl ?_)
  try any_goals (first | refine W_skip (d := 48) wk_stepper rfl rfl ?_ | refine W_idxArr (d := 48) wk_stepper (n := 12) (k := 1) (by kernel_rfl) rfl rfl rfl rfl (by omega) ?_)
  try any_goals (first | refine W_skip (d := 49) wk_stepper rfl rfl ?_ | refine W_loadRaw (d := 49) 0 wk_stepper rfl (by kernel_rfl) rfl rfl rfl (bitsN_get (by omega)) ?_)
  try any_goals (first | refine W_pickT (d := 50) wk_stepper rfl rfl rfl rfl ?_ | refine W_pickF (d := 50) wk_stepper rfl rfl rfl rfl ?_)
  try any_goals (refine W_move (d := 51) wk_stepper rfl rfl rfl ?_)
  try any_goals ((refine W_splitG wk_stepper _ rfl _ rfl (fun hq => ?_) (fun hq => ?_) <;> ((try simp only [hqs, reduceCtorEq] at hq); try (have hq' := hq; clear hq))))
  try any_goals (first | refine W_skip (d := 52) wk_stepper rfl rfl ?_ | refine W_move (d := 52) wk_stepper rfl rfl rfl ?_)
  try any_goals (first | refine W_skip (d := 53) wk_stepper rfl rfl ?_ | refine W_cmp (d := 53) wk_stepper rfl rfl rfl rfl rfl ?_)
  try any_goals (first | refine W_skip (d := 54) wk_stepper rfl rfl ?_ | refine W_move (d := 54) wk_stepper rfl rfl rfl ?_)
  try any_goals ((refine W_splitG wk_stepper _ rfl _ rfl (fun hq => ?_) (fun hq => ?_) <;> ((try simp only [hqs, reduceCtorEq] at hq); try (have hq' := hq; clear hq))))
  try any_goals (first | refine W_skip (d := 55) wk_stepper rfl rfl ?_ | refine W_loadUP (d := 55) wk_stepper (fun w' h => UR.lift (Sep.ext h) hr3) (by kernel_rfl) rfl rfl rfl ?_)
  try any_goals (first | refine W_skip (d := 56) wk_stepper rfl rfl ?_ | refine W_loadUP (d := 56) wk_stepper (fun w' h => UR.lift (Sep.ext h) hr4) (by kernel_rfl) rfl rfl rfl ?_)
  try any_goals (first | refine W_skip (d := 57) wk_stepper rfl rfl ?_ | refine W_loadUP (d := 57) wk_stepper (fun w' h => UR.lift (Sep.ext h) hr3) (by kernel_rfl) rfl rfl rfl ?_)
  try any_goals (first | refine W_skip (d := 58) wk_stepper rfl rfl ?_ | refine W_move (d := 58) wk_stepper rfl rfl rfl ?_)
  try any_goals (first | refine W_skip (d := 59) wk_stepper rfl rfl ?_ | refine W_move (d := 59) wk_stepper rfl rfl rfl ?_)
  try any_goals (first | refine W_skip (d := 60) wk_stepper rfl rfl ?_ | refine W_ar (d := 60) wk_stepper rfl rfl rfl rfl rfl (by first | omega | (dsimp only; omega)) ?_)
  try any_goals (first | refine W_skip (d := 61) wk_stepper rfl rfl ?_ | refine W_indexR (d := 61) wk_stepper (xs := ix B i) (fun w' h => IsS.up (Sep.ext h) (hrow i (by omega))) (by kernel_rfl) rfl rfl rfl rfl (by omega) ?_)
  try any_goals (first | refine W_skip (d := 62) wk_stepper rfl rfl ?_ | refine W_loadI (d := 62) wk_stepper (by kernel_rfl) rfl rfl rfl ?_)
  try any_goals (first | refine W_skip (d := 63) wk_stepper rfl rfl ?_ | refine W_ct (d := 63) wk_stepper (ct_tripWith _ _ (prev_ok hkall (by omega)).1) rfl rfl rfl (by kernel_rfl) ?_)
  try any_goals (first | refine W_skip (d := 64) wk_stepper rfl rfl ?_ | refine W_fieldUP (d := 64) wk_stepper (fun w' h => UR.lift (Sep.ext h) hr3) (Proj.tail _ _ (Proj.head _ _ _)) (by kernel_rfl) rfl rfl rfl ?_)
  try any_goals (first | refine W_skip (d := 65) wk_stepper rfl rfl ?_ | refine W_loadS (d := 65) wk_stepper (by kernel_rfl) rfl rfl rfl ?_)
  try any_goals (first | refine W_skip (d := 66) wk_stepper rfl rfl ?_ | refine W_move (d := 66) wk_stepper rfl rfl rfl ?_)
  try any_goals (first | refine W_skip (d := 67) wk_stepper rfl rfl ?_ | refine W_index (d := 67) wk_stepper (by kernel_rfl) rfl rfl rfl rfl (by first | omega | (dsimp only; omega)) ?_)
  try any_goals (first | refine W_skip (d := 68) wk_stepper rfl rfl ?_ | refine W_loadA (d := 68) wk_stepper (by kernel_rfl) rfl rfl rfl ?_)
  try any_goals (first | refine W_skip (d := 69) wk_stepper rfl rfl ?_ | refine W_ct (d := 69) wk_stepper (ct_canFollow _ _ (ix t.T (fndT t (ix (ix B i) ((k : Int) - 1)))) (ix t.T (fndT t (ix (ix B i) k))) hv hf (tr_ok hv (prev_ok hkall (by omega))).1 (tr_ok hv ⟨by omega, fndT_bd.2⟩).1 (tr_ok hv (prev_ok hkall (by omega))).2.1 (tr_ok hv (prev_ok hkall (by omega))).2.2) rfl rfl rfl (by kernel_rfl) ?_)
  try any_goals (first | refine W_skip (d := 70) wk_stepper rfl rfl ?_ | refine W_not (d := 70) wk_stepper rfl rfl rfl ?_)
  try any_goals (first | refine W_skip (d := 71) wk_stepper rfl rfl ?_ | refine W_pickT (d := 71) wk_stepper rfl rfl rfl rfl ?_ | refine W_pickF (d := 71) wk_stepper rfl rfl rfl rfl ?_)
  try any_goals (first | refine W_pickT (d := 72) wk_stepper rfl rfl rfl rfl ?_ | refine W_pickF (d := 72) wk_stepper rfl rfl rfl rfl ?_)
  try any_goals (refine Wk_end (by kernel_rfl) (by kernel_rfl) ?_)
  try any_goals (refine G_then ?_)
  try any_goals (first | refine H_condT rfl ?_ | refine H_condF rfl ?_ | (refine H_cond _ rfl (fun hq => ?_) (fun hq => ?_) <;> (try simp only [hqs, reduceCtorEq] at hq)))
  try any_goals (first | ((have htb := fndT_bd (t := t) (id := ix (ix B i) k))) | skip)
  try any_goals ((refine H_seq ?_; try refine H_reg ?_))
  try any_goals (refine W_assign (d := 6) (sq_stepper upC_sep) rfl rfl rfl ?_)
  try any_goals ((refine Sq_nil ?_; try refine G_then ?_))
  try any_goals (refine H_ret ?_)
  repeat (any_goals (first | refine G_ret_then ?_ | refine G_ret_block ?_))
  try any_goals (refine H_skip ?_)
  try any_goals (refine G_then ?_)
  try any_goals ((refine H_seq ?_; try refine H_reg ?_))
  try any_goals (refine W_move (d := 73) (sq_stepper upC_sep) rfl rfl rfl ?_)
  try any_goals (refine W_idxArr (d := 74) (sq_stepper upC_sep) (n := 12) (k := 1) (by kernel_rfl) rfl rfl rfl rfl (by omega) ?_)
  try any_goals ((refine Sq_storeRaw 0 (vs := [.bool true]) rfl ⟨trivial, trivial⟩ (by kernel_rfl) rfl rfl rfl (raw_v rfl) (by rw [bitsN_len]; simp only [List.length_cons, List.length_nil]; omega) ?_; rw [bitsN_put (by omega)]))
  try any_goals ((refine Sq_nil ?_; try refine G_then ?_))
  try any_goals (refine H_reg ?_)
  try any_goals (refine W_move (d := 75) (sq_stepper upC_sep) rfl rfl rfl ?_)
  try any_goals (refine W_ar (d := 76) (sq_stepper upC_sep) rfl rfl rfl rfl rfl (by first | omega | (dsimp only; omega)) ?_)
  try any_goals (refine W_assign (d := 8) (sq_stepper upC_sep) rfl rfl rfl ?_)
  try any_goals (refine Sq_nil ?_)
  repeat (any_goals (first | refine G_exit_then ?_ | refine G_exit_here ?_ | refine G_exit_far rfl ?_ | refine G_normal_block ?_))
  try any_goals (refine G_then ?_)
  try any_goals (refine H_reg ?_)
  try any_goals (refine W_ar (d := 77) (sq_stepper upC_sep) rfl rfl rfl rfl rfl (by first | omega | (dsimp only; omega)) ?_)
  try any_goals (refine W_move (d := 36) (sq_stepper upC_sep) rfl rfl rfl ?_)
  try any_goals (refine Sq_nil ?_)
  try any_goals (have hn : ((sixB t B i (k + 1)).length : Int) = (sixB t B i k).length + 1 := (by rw [sixB_step (by omega)]; simp); refine G_again (k + 1) ⟨by omega, ?_, ?_⟩ (by omega) (by simp only [hn]; exact (by repeat (first | exact trivial | refine ⟨⟨_, rfl, fun _ _ _ h => h⟩, ?_⟩ | refine ⟨⟨_, rfl, fun v w _ h => (show v = _ from h).trans (congrArg (Value.int .i64) (by first | omega | (dsimp only; omega)))⟩, ?_⟩))) (fun w' h => ?_))
  repeat (any_goals (first | refine G_exit_then ?_ | refine G_exit_here ?_ | refine G_exit_far rfl ?_ | refine G_normal_block ?_))
  repeat (any_goals (first | refine G_exit_then ?_ | refine G_exit_here ?_ | refine G_exit_far rfl ?_ | refine G_normal_block ?_))
  try any_goals (refine W_ar (d := 78) (sq_stepper upC_sep) rfl rfl rfl rfl rfl (by first | omega | (dsimp only; omega)) ?_)
  try any_goals (refine W_move (d := 17) (sq_stepper upC_sep) rfl rfl rfl ?_)
  try any_goals (refine Sq_nil ?_)
  try any_goals (have hn : ((sixB t B (i + 1) 0).length : Int) = (sixB t B i k).length := (by rw [sixB_next (k := k) (by omega) (by omega)]); refine G_again (i + 1, _) ⟨by simp only; omega, ?_, ?_, (fun h => absurd h (Nat.succ_ne_zero _)), (fun _ => ?_)⟩ (by simp only; omega) (by simp only [hn]; exact (by repeat (first | exact trivial | refine ⟨⟨_, rfl, fun _ _ _ h => h⟩, ?_⟩ | refine ⟨⟨_, rfl, fun v w _ h => (show v = _ from h).trans (congrArg (Value.int .i64) (by first | omega | (dsimp only; omega)))⟩, ?_⟩))) (fun w' h => ?_))
  repeat (any_goals (first | refine G_exit_then ?_ | refine G_exit_here ?_ | refine G_exit_far rfl ?_ | refine G_normal_block ?_))
  try any_goals (refine W_move (d := 79) (sq_stepper upC_sep) rfl rfl rfl ?_)
  try any_goals (refine W_fieldUP (d := 80) (sq_stepper upC_sep) (fun w' h => UR.lift (Sep.ext h) hr3) (Proj.tail _ _ (Proj.head _ _ _)) (by kernel_rfl) rfl rfl rfl ?_)
  try any_goals (refine W_loadS (d := 81) (sq_stepper upC_sep) (by kernel_rfl) rfl rfl rfl ?_)
  try any_goals (refine W_len (d := 82) (sq_stepper upC_sep) (by kernel_rfl) rfl rfl rfl ?_)
  try any_goals (refine W_cmp (d := 83) (sq_stepper upC_sep) rfl rfl rfl rfl rfl ?_)
  try any_goals (refine W_assign (d := 6) (sq_stepper upC_sep) rfl rfl rfl ?_)
  try any_goals ((refine Sq_nil ?_; try refine G_then ?_))
  try any_goals (refine H_ret ?_)
  repeat (any_goals (first | refine G_ret_then ?_ | refine G_ret_block ?_))
  all_goals (try dsimp only)
  all_goals first
    | exact R1v rfl (fun _ h => hE.trans h.ext) rfl (congrArg Value.bool (blkB_f (i := i) (by omega) (bkOk_f (.inl (by omega)))).symm)
    | exact R1v rfl (fun _ h => hE.trans h.ext) rfl (congrArg Value.bool (blkB_f (i := i) (by omega) (blk_last hv hl0 hl1 (by omega) (by omega))).symm)
    | exact R1v rfl (fun _ h => hE.trans h.ext) rfl (congrArg Value.bool (blkB_f (i := i) (by omega) (bkOk_f2 (k := k) (by omega) (idOk_f (.inl (by omega))))).symm)
    | exact R1v rfl (fun _ h => hE.trans h.ext) rfl (congrArg Value.bool (blkB_f (i := i) (by omega) (bkOk_f2 (k := k) (by omega) (idOk_f (.inr (by assumption))))).symm)
    | exact R1v rfl (fun _ h => hE.trans h.ext) rfl (congrArg Value.bool (blkB_f (i := i) (by omega) (bkOk_f2 (k := k) (by omega) (idOk_f2 (by omega) (by assumption)))).symm)
    | exact R1v rfl (fun _ h => hE.trans h.ext) rfl (congrArg Value.bool (blkB_e (by omega) hall))
    | (rw [show ((i + 1 : Nat) : Int) - 1 = (i : Int) by omega]; done)
    | exact hsx.step (by omega) (by omega) (by assumption)
    | exact alln_step hkall (idOk_t (by omega) (by assumption) (.inl (by omega)))
    | exact alln_step hkall (idOk_t (by omega) (by assumption) (.inr (by assumption)))
    | (rw [sixB_step (by omega)]; exact h)
    | (rw [sixB_next (k := k) (by omega) (by omega)]; exact hsx)
    | (rw [sixB_next (k := k) (by omega) (by omega)]; exact h)
    | exact alln_step hall (bkOk_t (k := k) (by omega) (by omega) (by omega) hkall)
    | trace_state
theorem ct_l12Blocks {e1 e2 : Option TypeId} (t : Tab) (f : Flt) (B : List (List Int)) : CT Tryz.prog 50 [.inr (uA bTab t), .inr (uA bFlt f), .inr (uS e1 (pS e2 pI) B)] (.inl (.bool (runOk t f && blkB t f B))) := by
  refine CT_of Tryz.func50 rfl rfl rfl (fun w => ?_)
  have hC := upC_ext w
  try any_goals ((refine H_seq ?_; try refine H_reg ?_))
  try any_goals (refine W_boxA (d := 3) (sq_stepper hC) rfl rfl rfl ?_)
  try any_goals (refine W_boxA (d := 4) (sq_stepper hC) rfl rfl rfl ?_)
  try any_goals (refine W_assign (d := 6) (sq_stepper hC) rfl rfl rfl ?_)
  try any_goals ((refine Sq_nil ?_; try refine G_then ?_))
  try any_goals ((refine H_seq ?_; try refine H_reg ?_))
  try any_goals (refine W_loadA (d := 7) (sq_stepper hC) (by kernel_rfl) rfl rfl rfl ?_)
  try any_goals (refine W_loadA (d := 8) (sq_stepper hC) (by kernel_rfl) rfl rfl rfl ?_)
  try any_goals (refine W_ct (d := 9) (sq_stepper hC) (ct_l11Asked _ _) rfl rfl rfl (by kernel_rfl) ?_)
  try any_goals (refine W_move (d := 10) (sq_stepper hC) rfl rfl rfl ?_)
  try any_goals ((refine W_splitG (sq_stepper hC) _ rfl _ rfl (fun hq => ?_) (fun hq => ?_) <;> ((try simp only [hqs, reduceCtorEq] at hq); try (have hq' := hq; clear hq))))
  try any_goals (first | refine W_skip (d := 11) (sq_stepper hC) rfl rfl ?_ | refine W_loadA (d := 11) (sq_stepper hC) (by kernel_rfl) rfl rfl rfl ?_)
  try any_goals (first | refine W_skip (d := 12) (sq_stepper hC) rfl rfl ?_ | refine W_loadA (d := 12) (sq_stepper hC) (by kernel_rfl) rfl rfl rfl ?_)
  try any_goals (first | refine W_skip (d := 13) (sq_stepper hC) rfl rfl ?_ | refine W_move (d := 13) (sq_stepper hC) rfl rfl rfl ?_)
  try any_goals (first | refine W_skip (d := 14) (sq_stepper hC) rfl rfl ?_ | refine W_ct (d := 14) (sq_stepper hC) (ct_l11Blocks _ _ _ (runOk_t (by assumption)).1 (runOk_t (by assumption)).2) rfl rfl rfl (by kernel_rfl) ?_)
  try any_goals (first | refine W_pickT (d := 15) (sq_stepper hC) rfl rfl rfl rfl ?_ | refine W_pickF (d := 15) (sq_stepper hC) rfl rfl rfl rfl ?_)
  try any_goals (refine W_assign (d := 6) (sq_stepper hC) rfl rfl rfl ?_)
  try any_goals ((refine Sq_nil ?_; try refine G_then ?_))
  try any_goals (refine H_ret ?_)
  repeat (any_goals (first | refine G_ret_then ?_ | refine G_ret_block ?_))
  all_goals exact R1v rfl (fun _ h => h) rfl (congrArg Value.bool (by simp [*]))
theorem ct_iBlocks {e1 e2 : Option TypeId} (t : Tab) (f : Flt) (B : List (List Int)) : CT Tryz.prog 64 [.inr (uA bTab t), .inr (uA bFlt f), .inr (uS e1 (pS e2 pI) B)] (.inl (.bool (runOk t f && blkB t f B))) := by
  refine CT_of Tryz.func64 rfl rfl rfl (fun w => ?_)
  have hC := upC_ext w
  try any_goals ((refine H_seq ?_; try refine H_reg ?_))
  try any_goals (refine W_boxA (d := 3) (sq_stepper hC) rfl rfl rfl ?_)
  try any_goals (refine W_boxA (d := 4) (sq_stepper hC) rfl rfl rfl ?_)
  try any_goals (refine W_assign (d := 6) (sq_stepper hC) rfl rfl rfl ?_)
  try any_goals ((refine Sq_nil ?_; try refine G_then ?_))
  try any_goals ((refine H_seq ?_; try refine H_reg ?_))
  try any_goals (refine W_loadA (d := 7) (sq_stepper hC) (by kernel_rfl) rfl rfl rfl ?_)
  try any_goals (refine W_loadA (d := 8) (sq_stepper hC) (by kernel_rfl) rfl rfl rfl ?_)
  try any_goals (refine W_ct (d := 9) (sq_stepper hC) (ct_isRun _ _) rfl rfl rfl (by kernel_rfl) ?_)
  try any_goals (refine W_move (d := 10) (sq_stepper hC) rfl rfl rfl ?_)
  try any_goals ((refine W_splitG (sq_stepper hC) _ rfl _ rfl (fun hq => ?_) (fun hq => ?_) <;> ((try simp only [hqs, reduceCtorEq] at hq); try (have hq' := hq; clear hq))))
  try any_goals (first | refine W_skip (d := 11) (sq_stepper hC) rfl rfl ?_ | refine W_loadA (d := 11) (sq_stepper hC) (by kernel_rfl) rfl rfl rfl ?_)
  try any_goals (first | refine W_skip (d := 12) (sq_stepper hC) rfl rfl ?_ | refine W_loadA (d := 12) (sq_stepper hC) (by kernel_rfl) rfl rfl rfl ?_)
  try any_goals (first | refine W_skip (d := 13) (sq_stepper hC) rfl rfl ?_ | refine W_move (d := 13) (sq_stepper hC) rfl rfl rfl ?_)
  try any_goals (first | refine W_skip (d := 14) (sq_stepper hC) rfl rfl ?_ | refine W_ct (d := 14) (sq_stepper hC) (ct_areBlocks _ _ _ (runOk_t (by assumption)).1 (runOk_t (by assumption)).2) rfl rfl rfl (by kernel_rfl) ?_)
  try any_goals (first | refine W_pickT (d := 15) (sq_stepper hC) rfl rfl rfl rfl ?_ | refine W_pickF (d := 15) (sq_stepper hC) rfl rfl rfl rfl ?_)
  try any_goals (refine W_assign (d := 6) (sq_stepper hC) rfl rfl rfl ?_)
  try any_goals ((refine Sq_nil ?_; try refine G_then ?_))
  try any_goals (refine H_ret ?_)
  repeat (any_goals (first | refine G_ret_then ?_ | refine G_ret_block ?_))
  all_goals exact R1v rfl (fun _ h => h) rfl (congrArg Value.bool (by simp [*]))
end Go.Proofs.YtanlaggnhocjhaaGreat

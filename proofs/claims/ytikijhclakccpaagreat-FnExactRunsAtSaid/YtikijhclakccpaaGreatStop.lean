/- Stop times, both ways. -/
import Derived.Test.YtikijhclakccpaaGreatTrip
import Derived.Test.YtikijhclakccpaaGreatVals
namespace Go.Proofs.YtikijhclakccpaaGreat
set_option linter.unusedSimpArgs false
set_option linter.unusedVariables false
open Go.RowKit Go.ChangeShapes Go.WideShapes Go.ChangeAt Go.Deep
/-! Stop times. -/
def lstI (f : Nat → Int) (n : Nat) : List Int := (List.range n).map f
theorem lstI_length {f : Nat → Int} {n : Nat} : (lstI f n).length = n := by simp [lstI]
theorem lstI_succ {f : Nat → Int} {n : Nat} : lstI f n ++ [f n] = lstI f (n + 1) := by simp [lstI, List.range_succ]
theorem ix_lstI {f : Nat → Int} {n i : Nat} (hi : i < n) : ix (lstI f n) i = f i := by
  unfold ix lstI
  rw [List.getD_eq_getElem?_getD, List.getElem?_map, Int.toNat_natCast, List.getElem?_range hi]
  rfl
def addF (f : Nat → Int) (d : Int) (k : Nat) : Nat → Int := fun j => f j + (if j < k then d else 0)
theorem addF_zero {f : Nat → Int} {d : Int} {n : Nat} : lstI (addF f d 0) n = lstI f n := by
  unfold lstI
  congr 1
  funext j
  simp [addF]
theorem addF_all {f : Nat → Int} {d : Int} {n k : Nat} (hk : n ≤ k) : lstI (addF f d k) n = lstI (fun j => f j + d) n := by
  unfold lstI
  apply List.map_congr_left
  intro j hj
  have := List.mem_range.1 hj
  rw [addF, if_pos (by omega)]
theorem addF_ix {f : Nat → Int} {d : Int} {n k : Nat} (hk : k < n) : ix (lstI (addF f d k) n) k = f k := by
  rw [ix_lstI hk, addF, if_neg (Nat.lt_irrefl _), Int.add_zero]
theorem addF_set {f : Nat → Int} {d : Int} {n k : Nat} (hk : k < n) : (lstI (addF f d k) n).set (k : Int).toNat (f k + d) = lstI (addF f d (k + 1)) n := by
  apply List.ext_getElem?
  intro j
  rw [Int.toNat_natCast]
  by_cases hj : j < n
  · rw [List.getElem?_set]
    unfold lstI
    rw [List.getElem?_map, List.getElem?_map, List.getElem?_range hj, List.length_map, List.length_range]
    by_cases e : k = j
    · subst e
      rw [if_pos rfl, if_pos hk, Option.map_some, addF, if_pos (Nat.lt_succ_self _)]
    · rw [if_neg e]
      simp only [Option.map_some, addF]
      congr 2
      by_cases h : j < k
      · rw [if_pos h, if_pos (by omega)]
      · rw [if_neg h, if_neg (by omega)]
  · rw [List.getElem?_eq_none (by rw [List.length_set, lstI_length]; omega), List.getElem?_eq_none (by rw [lstI_length]; omega)]
def timF (t : Tab) (x : Trp) (k : Nat) : Int := x.S + preI (ix t.N.L x.L).R k
def timT (t : Tab) (x : Trp) : List Int := lstI (timF t x) (ix t.N.L x.L).S.length
theorem timF_bd {t : Tab} {x : Trp} (hz : LinK (ix t.N.L x.L)) (hs : 0 ≤ x.S ∧ x.S ≤ 1799) {k : Nat} (hk : (k : Int) ≤ (ix t.N.L x.L).R.length) : 0 ≤ timF t x k ∧ timF t x k ≤ 2200 := by
  have h1 := hz.pre k hk
  have h2 := hz.s
  have h3 := hz.r
  unfold timF
  omega
theorem cg_stopTimes (t : Tab) (x : Trp) (hl : 0 ≤ x.L ∧ x.L < t.N.L.length) (hz : LinK (ix t.N.L x.L)) (hs0 : 0 ≤ x.S ∧ x.S ≤ 1799) : CTG Tryz.prog 54 [.inr (uA bTab t), .inr (uA pTrp x)] (fun s => .inr (uO s oIntS (timT t x))) := by
  refine CTG_of Tryz.func54 rfl rfl rfl (fun w s hs => ?_)
  have hC := upC_ext w
  have hz1 := hz.s
  have hz2 := hz.r
  try any_goals (first | (refine H_seq ?_; try refine H_reg ?_) | refine H_reg ?_)
  try any_goals (refine W_boxA (d := 2) (sq_stepper hC) rfl rfl rfl ?_)
  try any_goals (refine W_boxA (d := 3) (sq_stepper hC) rfl rfl rfl ?_)
  try any_goals (refine W_assign (d := 4) (sq_stepper hC) rfl rfl rfl ?_)
  try any_goals (first | (refine Sq_nil ?_; try refine G_then ?_) | refine G_then ?_)
  try any_goals (first | (refine H_seq ?_; try refine H_reg ?_) | refine H_reg ?_)
  try any_goals (first | refine W_fieldG (d := 8) (sq_stepper hC) (Proj.tail _ _ (Proj.tail _ _ (Proj.head _ _ _))) (by kernel_rfl) rfl rfl rfl ?_ | refine W_fieldS (d := 8) 0 (off := 2) (sq_stepper hC) rfl (by first | omega | (simp; done) | (simp; omega)) (by kernel_rfl) rfl rfl rfl ?_ | refine W_fieldC (d := 8) (sq_stepper hC) (off := 2) (by kernel_rfl) rfl rfl rfl ?_)
  try any_goals (first | refine W_loadI (d := 9) (sq_stepper hC) (by kernel_rfl) rfl rfl rfl ?_ | refine W_loadS1 (d := 9) 0 (sq_stepper hC) (Θ := pI) (q := fun x => x) _ rfl proj_self mk_I rfl (by rw [lstI_length]; omega) (by kernel_rfl) rfl rfl rfl ?_)
  try any_goals (refine W_buildF (d := 10) (sq_stepper hC) [.tmp 9] pI [x.S] (e := 3) (by kernel_rfl) (by kernel_rfl) rfl rfl (by kernel_rfl) rfl rfl rfl ⟨elem_I, trivial⟩ ?_)
  try any_goals (refine W_assign (d := 5) (sq_stepper hC) rfl rfl rfl ?_)
  try any_goals (first | (refine Sq_nil ?_; try refine G_then ?_) | refine G_then ?_)
  try any_goals (refine H_seq ?_)
  try any_goals (first | (refine H_seq ?_; try refine H_reg ?_) | refine H_reg ?_)
  try any_goals (first | refine W_loadA (d := 11) (sq_stepper hC) (by kernel_rfl) rfl rfl rfl ?_ | refine W_loadS1 (d := 11) 0 (sq_stepper hC) (Θ := pI) (q := fun x => x) _ rfl proj_self mk_I rfl (by rw [lstI_length]; omega) (by kernel_rfl) rfl rfl rfl ?_)
  try any_goals (first | refine W_loadA (d := 12) (sq_stepper hC) (by kernel_rfl) rfl rfl rfl ?_ | refine W_loadS1 (d := 12) 0 (sq_stepper hC) (Θ := pI) (q := fun x => x) _ rfl proj_self mk_I rfl (by rw [lstI_length]; omega) (by kernel_rfl) rfl rfl rfl ?_)
  try any_goals (refine W_ct (d := 13) (sq_stepper hC) (ct_lineOf _ _ hl) rfl rfl rfl (by kernel_rfl) ?_)
  try any_goals (first | refine W_fieldVS (d := 14) (sq_stepper hC) (Proj.tail _ _ (Proj.tail _ _ (Proj.head _ _ _))) (by kernel_rfl) rfl rfl rfl ?_ | refine W_fieldV1 (d := 14) (sq_stepper hC) _ mk_I (Proj.tail _ _ (Proj.tail _ _ (Proj.head _ _ _))) (by kernel_rfl) rfl rfl rfl ?_ | refine W_fieldV1 (d := 14) (sq_stepper hC) _ mk_B (Proj.tail _ _ (Proj.tail _ _ (Proj.head _ _ _))) (by kernel_rfl) rfl rfl rfl ?_ | refine W_fieldV1 (d := 14) (sq_stepper hC) _ mk_Str (Proj.tail _ _ (Proj.tail _ _ (Proj.head _ _ _))) (by kernel_rfl) rfl rfl rfl ?_)
  try any_goals (first | refine W_lenS (d := 15) 0 (sq_stepper hC) rfl (by kernel_rfl) rfl rfl rfl ?_ | refine W_len (d := 15) (sq_stepper hC) (by kernel_rfl) rfl rfl rfl ?_ | refine W_lenStr (d := 15) (sq_stepper hC) (by kernel_rfl) rfl rfl rfl ?_)
  try any_goals (refine W_move (d := 16) (sq_stepper hC) rfl rfl rfl ?_)
  try any_goals (first | (refine Sq_nil ?_; try refine G_then ?_) | refine G_then ?_)
  try any_goals (refine H_block ?_)
  try any_goals ((refine H_open 5 rfl (fun q0 v5 hE0 hv5 => ?_); obtain ⟨p5, rfl, hi5⟩ := hv5; refine H_open 14 rfl (fun q v14 hE1 hv14 => ?_); have hi5 := IsS.up hE1 hi5; have hE := hE0.trans hE1; refine H_weakenC (C' := Sep q []) (fun w' h => sep_start h) ?_; refine H_loop (σ := Nat × Value) (fun y => y.1 ≤ (ix t.N.L x.L).R.length ∧ (y.1 = 0 → y.2 = .slice p5 1 1)) (fun y => [(5, .inl y.2), (14, .inl v14), (15, .inl (.int .i64 (ix t.N.L x.L).R.length)), (16, .inl (.int .i64 y.1))]) (fun y => Sep q (if y.1 = 0 then [] else [.sl Int 3 pI (lstI (timF t x) (y.1 + 1)) y.2])) (fun y => (ix t.N.L x.L).R.length - y.1) (0, .slice p5 1 1) ⟨Nat.zero_le _, fun _ => rfl⟩ (fun a w' h => h.sub (by repeat (first | exact trivial | refine ⟨⟨_, rfl, fun _ _ _ h => h⟩, ?_⟩ | refine ⟨⟨_, rfl, fun v w _ h => (show v = _ from h).trans (congrArg (Value.int .i64) (by first | omega | (dsimp only; omega)))⟩, ?_⟩)) (fun w' h => h)) (fun y hk => ?_); obtain ⟨k, vk⟩ := y; obtain ⟨hk, hk2⟩ := hk; simp only at hk hk2; (rcases Nat.eq_zero_or_pos k with hk0 | hk0); all_goals first | (subst hk0; obtain rfl := hk2 rfl; refine H_weakenC (C' := Sep q []) (fun w' h => h) ?_; have hC : UpC (Sep q []) := upC_sep) | (refine H_weakenC (C' := Sep q [.sl Int 3 pI (lstI (timF t x) (k + 1)) vk]) (fun w' h => by simpa [Nat.ne_of_gt hk0] using h) ?_)))
  try any_goals (first | (refine H_seq ?_; try refine H_reg ?_) | refine H_reg ?_)
  try any_goals (first | refine W_cmp (d := 17) (sq_stepper upC_sep) rfl rfl rfl rfl rfl ?_ | refine W_strcmp (d := 17) (sq_stepper upC_sep) rfl rfl rfl rfl rfl ?_)
  try any_goals (first | (refine Sq_nil ?_; try refine G_then ?_) | refine G_then ?_)
  try any_goals (refine H_seq ?_)
  try any_goals (first | refine H_condT rfl ?_ | refine H_condF rfl ?_ | (refine H_cond _ rfl (fun hq => ?_) (fun hq => ?_) <;> (try simp only [hqs, reduceCtorEq] at hq)))
  try any_goals (first | ((have hr1 := hz.v k (by omega); have hx := ix_lstI (f := timF t x) (n := k + 1) (i := k) (by omega); have hb := timF_bd hz hs0 (k := k) (by omega))) | skip)
  try any_goals (first | ((have hr1 := hz.v 0 (by omega); have hx0 : ix [x.S] ((0 : Nat) : Int) = x.S := rfl)) | skip)
  try any_goals (refine H_skip ?_)
  try any_goals (refine H_exit ?_)
  repeat (any_goals (first | refine G_exit_then ?_ | refine G_exit_here ?_ | refine G_exit_far rfl ?_))
  try any_goals (refine G_then ?_)
  try any_goals (refine H_seq ?_)
  try any_goals (refine H_block ?_)
  try any_goals (first | (refine H_seq ?_; try refine H_reg ?_) | refine H_reg ?_)
  try any_goals (refine W_move (d := 18) (sq_stepper upC_sep) rfl rfl rfl ?_)
  try any_goals (first | refine W_idxS (d := 19) 0 (sq_stepper upC_sep) rfl (by kernel_rfl) rfl rfl rfl rfl (by first | omega | (simp; done) | (simp; omega)) ?_ | refine W_index (d := 19) (sq_stepper upC_sep) (by kernel_rfl) rfl rfl rfl rfl (by first | omega | (dsimp only; omega)) ?_ | refine W_indexR (d := 19) (sq_stepper upC_sep) (xs := (ix t.N.L x.L).R) (fun w' h => IsS.up (Sep.ext h) hv14) (by kernel_rfl) rfl rfl rfl rfl (by omega) ?_ | refine W_indexR (d := 19) (sq_stepper upC_sep) (xs := [x.S]) (fun w' h => IsS.up (Sep.ext h) hi5) (by kernel_rfl) rfl rfl rfl rfl (by simp) ?_ | refine W_idxS (d := 19) 0 (sq_stepper upC_sep) rfl (by kernel_rfl) rfl rfl rfl rfl (by rw [lstI_length]; omega) ?_)
  try any_goals (first | refine W_loadI (d := 20) (sq_stepper upC_sep) (by kernel_rfl) rfl rfl rfl ?_ | refine W_loadS1 (d := 20) 0 (sq_stepper upC_sep) (Θ := pI) (q := fun x => x) _ rfl proj_self mk_I rfl (by rw [lstI_length]; omega) (by kernel_rfl) rfl rfl rfl ?_)
  try any_goals (refine W_assign (d := 6) (sq_stepper upC_sep) rfl rfl rfl ?_)
  try any_goals (refine W_assign (d := 7) (sq_stepper upC_sep) rfl rfl rfl ?_)
  try any_goals (first | (refine Sq_nil ?_; try refine G_then ?_) | refine G_then ?_)
  try any_goals (refine H_reg ?_)
  try any_goals (refine W_move (d := 21) (sq_stepper upC_sep) rfl rfl rfl ?_)
  try any_goals (refine W_move (d := 22) (sq_stepper upC_sep) rfl rfl rfl ?_)
  try any_goals (refine W_move (d := 23) (sq_stepper upC_sep) rfl rfl rfl ?_)
  try any_goals (first | refine W_idxS (d := 24) 0 (sq_stepper upC_sep) rfl (by kernel_rfl) rfl rfl rfl rfl (by first | omega | (simp; done) | (simp; omega)) ?_ | refine W_index (d := 24) (sq_stepper upC_sep) (by kernel_rfl) rfl rfl rfl rfl (by first | omega | (dsimp only; omega)) ?_ | refine W_indexR (d := 24) (sq_stepper upC_sep) (xs := (ix t.N.L x.L).R) (fun w' h => IsS.up (Sep.ext h) hv14) (by kernel_rfl) rfl rfl rfl rfl (by omega) ?_ | refine W_indexR (d := 24) (sq_stepper upC_sep) (xs := [x.S]) (fun w' h => IsS.up (Sep.ext h) hi5) (by kernel_rfl) rfl rfl rfl rfl (by simp) ?_ | refine W_idxS (d := 24) 0 (sq_stepper upC_sep) rfl (by kernel_rfl) rfl rfl rfl rfl (by rw [lstI_length]; omega) ?_)
  try any_goals (first | refine W_loadI (d := 25) (sq_stepper upC_sep) (by kernel_rfl) rfl rfl rfl ?_ | refine W_loadS1 (d := 25) 0 (sq_stepper upC_sep) (Θ := pI) (q := fun x => x) _ rfl proj_self mk_I rfl (by rw [lstI_length]; omega) (by kernel_rfl) rfl rfl rfl ?_)
  try any_goals (refine W_move (d := 26) (sq_stepper upC_sep) rfl rfl rfl ?_)
  try any_goals (refine W_ar (d := 27) (sq_stepper upC_sep) rfl rfl rfl rfl rfl (by first | omega | (dsimp only; omega)) ?_)
  try any_goals (refine W_buildS (d := 28) (sq_stepper upC_sep) [(Operand.tmp 27)] pI [_] (e := 3) (by kernel_rfl) (by kernel_rfl) rfl rfl (by kernel_rfl) rfl rfl rfl ⟨elem_I, trivial⟩ ?_)
  try any_goals (first | (refine Sq_appS (d := 29) 0 (Ψ := pI) rfl ⟨trivial, trivial⟩ (by kernel_rfl) (by kernel_rfl) rfl rfl rfl ⟨by rw [lstI_length]; simp only [List.length_cons, List.length_nil]; omega, by simp⟩ (fun va => ?_)) | (refine Sq_appF (d := 29) (Ψ := pI) (xs := [x.S]) (fun w' h => IsS.up (Sep.ext h) hi5) (by kernel_rfl) (by kernel_rfl) rfl rfl rfl ⟨by simp, by simp⟩ (fun va => ?_)))
  try any_goals (refine W_assign (d := 5) (sq_stepper upC_sep) rfl rfl rfl ?_)
  try any_goals (refine Sq_nil ?_)
  repeat (any_goals (first | refine G_exit_then ?_ | refine G_exit_here ?_ | refine G_exit_far rfl ?_ | refine G_normal_block ?_))
  try any_goals (refine G_then ?_)
  try any_goals (refine H_reg ?_)
  try any_goals (refine W_ar (d := 30) (sq_stepper upC_sep) rfl rfl rfl rfl rfl (by first | omega | (dsimp only; omega)) ?_)
  try any_goals (refine W_move (d := 16) (sq_stepper upC_sep) rfl rfl rfl ?_)
  try any_goals (refine Sq_nil ?_)
  try any_goals (first | refine G_again (k + 1, va) ⟨by simp only; omega, fun h => absurd h (Nat.succ_ne_zero _)⟩ (by simp only; omega) (by repeat (first | exact trivial | refine ⟨⟨_, rfl, fun _ _ _ h => h⟩, ?_⟩ | refine ⟨⟨_, rfl, fun v w _ h => (show v = _ from h).trans (congrArg (Value.int .i64) (by first | omega | (dsimp only; omega)))⟩, ?_⟩)) (fun w' h => ?_) | refine G_again (0 + 1, va) ⟨by simp only; omega, fun h => absurd h (Nat.succ_ne_zero _)⟩ (by simp only; omega) (by repeat (first | exact trivial | refine ⟨⟨_, rfl, fun _ _ _ h => h⟩, ?_⟩ | refine ⟨⟨_, rfl, fun v w _ h => (show v = _ from h).trans (congrArg (Value.int .i64) (by first | omega | (dsimp only; omega)))⟩, ?_⟩)) (fun w' h => ?_))
  repeat (any_goals (first | refine G_exit_then ?_ | refine G_exit_here ?_ | refine G_exit_far rfl ?_ | refine G_normal_block ?_))
  try any_goals (refine G_then ?_)
  try any_goals (first | (refine H_seq ?_; try refine H_reg ?_) | refine H_reg ?_)
  try any_goals (refine W_move (d := 31) (sq_stepper upC_sep) rfl rfl rfl ?_)
  try any_goals (refine W_assign (d := 4) (sq_stepper upC_sep) rfl rfl rfl ?_)
  try any_goals (first | (refine Sq_nil ?_; try refine G_then ?_) | refine G_then ?_)
  try any_goals (refine H_ret ?_)
  repeat (any_goals (first | refine G_ret_then ?_ | refine G_ret_block ?_))
  all_goals (try dsimp only)
  all_goals first
    | (exfalso; omega)
    | (rw [if_neg (Nat.succ_ne_zero _), ← lstI_succ, timF, preI, ← Int.add_assoc]; rw [hx, timF] at h; exact h)
    | (rw [if_neg (Nat.succ_ne_zero _)]; simpa [lstI, timF, preI, List.range_succ, ix] using h)
    | (have e : k = (ix t.N.L x.L).R.length := by omega
       have e2 : k + 1 = (ix t.N.L x.L).S.length := by omega
       exact R1 rfl (fun _ h => hE.trans h.ext) rfl (fun v w' hc hv => by rw [show v = _ from hv, timT, ← e2]; exact hc.isO (m := 0) rfl (Nat.le_trans hs hE.size)))
    | trace_state
end Go.Proofs.YtikijhclakccpaaGreat

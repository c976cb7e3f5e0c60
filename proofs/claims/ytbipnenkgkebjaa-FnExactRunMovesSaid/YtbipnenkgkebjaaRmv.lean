/- Moves performed in a depot: the program's side. -/
import Derived.Test.YtbipnenkgkebjaaDtv
import Derived.Test.YtbipnenkgkebjaaMov
namespace Go.Proofs.Ytbipnenkgkebjaa
set_option linter.unusedSimpArgs false
set_option linter.unusedVariables false
open Go.RowKit Go.ChangeShapes Go.WideShapes Go.ChangeAt Go.Deep
def rmOk (d : Dep) (u : Nat) (m : Mv) (tr : List Int) : Bool := if m.O then tkB d.T m.V else decide (u < tr.length) && pkB d m.V (ix tr u)
def rmNx (d : Dep) (u : Nat) (m : Mv) (tr : List Int) : Dep := if m.O then tkD d m.V else pkD d m.V (ix tr u)
def rmU (u : Nat) (m : Mv) : Nat := if m.O then u else u + 1
def rmGo (tr : List Int) : List Mv → Dep → Nat → Nat → Dep × Nat
  | [], d, _, i => (d, i)
  | m :: ms, d, u, i => if rmOk d u m tr then rmGo tr ms (rmNx d u m tr) (rmU u m) (i + 1) else (d, i)
theorem drop_ixM {ms : List Mv} {i : Nat} (hi : i < ms.length) : ms.drop i = ix ms i :: ms.drop (i + 1) := by
  rw [List.drop_eq_getElem_cons hi]
  simp [ix, hi]
theorem rmGo_y {tr : List Int} {ms : List Mv} {d : Dep} {u i : Nat} (hi : i < ms.length) (h : rmOk d u (ix ms i) tr = true) : rmGo tr (ms.drop (i + 1)) (rmNx d u (ix ms i) tr) (rmU u (ix ms i)) (i + 1) = rmGo tr (ms.drop i) d u i := by
  rw [drop_ixM hi, rmGo, if_pos h]
theorem rmGo_n {tr : List Int} {ms : List Mv} {d : Dep} {u i : Nat} (hi : i < ms.length) (h : rmOk d u (ix ms i) tr = false) : rmGo tr (ms.drop i) d u i = (d, i) := by
  rw [drop_ixM hi, rmGo, h]
  rfl
theorem rmGo_e {tr : List Int} {ms : List Mv} {d : Dep} {u i : Nat} (hi : ms.length ≤ i) : rmGo tr (ms.drop i) d u i = (d, i) := by
  rw [List.drop_of_length_le hi, rmGo]
theorem rm_tk {d : Dep} {u : Nat} {m : Mv} {tr : List Int} (h : m.O = true) : rmOk d u m tr = tkB d.T m.V ∧ rmNx d u m tr = tkD d m.V ∧ rmU u m = u := by simp [rmOk, rmNx, rmU, h]
theorem rm_pk {d : Dep} {u : Nat} {m : Mv} {tr : List Int} (h : m.O = false) : rmOk d u m tr = (decide (u < tr.length) && pkB d m.V (ix tr u)) ∧ rmNx d u m tr = pkD d m.V (ix tr u) ∧ rmU u m = u + 1 := by simp [rmOk, rmNx, rmU, h]
theorem rmGo_k {tr : List Int} : ∀ {ms : List Mv} {d : Dep} {u i : Nat}, DvI d → DvI (rmGo tr ms d u i).1 ∧ (rmGo tr ms d u i).1.T.length = d.T.length ∧ i ≤ (rmGo tr ms d u i).2 ∧ (rmGo tr ms d u i).2 ≤ i + ms.length
  | [], d, u, i, h => by simp [rmGo, h]
  | m :: ms, d, u, i, h => by
    rw [rmGo]
    split
    · have h1 : DvI (rmNx d u m tr) ∧ (rmNx d u m tr).T.length = d.T.length := by
        unfold rmNx
        split
        · exact ⟨h.tkD, tkD_l⟩
        · exact ⟨h.pkD, pkD_l⟩
      obtain ⟨h2, h3, h4, h5⟩ := rmGo_k (tr := tr) (ms := ms) (u := rmU u m) (i := i + 1) h1.1
      exact ⟨h2, h3.trans h1.2, by omega, by rw [List.length_cons]; omega⟩
    · simp [h]
theorem cx_runMoves {w0 : World} {L0 : List Osl} {e1 e2 : Option TypeId} {vl vt : Value} (d : Dep) (ms : List Mv) (tr : List Int) (vS vT : Value) (vs : List Value) (hl : vs.length = d.T.length) (hd : DvI d) (ha : avAll L0 22) (hai : avAll L0 3) (hml : (uS e1 pMv ms).R vl w0) (hmt : (uS e2 pI tr).R vt w0) :
    CTX Try.prog 65 (Sep w0 (dpL d vS vT vs ++ L0)) [.inl (.agg (([vS, vT] : List Value)).toArray), .inl vl, .inl vt] (fun (vs' : List Value) w' => Sep w0 (dpL (rmGo tr ms d 0 0).1 vS vT vs' ++ L0) w' ∧ vs'.length = d.T.length) (fun _ => .inl (.int .i64 (rmGo tr ms d 0 0).2)) := by
  have hm9 := isS_le hml
  have ht9 := isS_le hmt
  refine CTX_of Try.func65 rfl rfl rfl ?_
  have hC : UpC (Sep w0 (dpL d vS vT vs ++ L0)) := upC_sep
  try any_goals (first | (refine H_seq ?_; try refine H_reg ?_) | refine H_reg ?_)
  try any_goals (refine Sq_boxS (d := 3) rfl rfl (fun g3 => ?_); refine Sq_weaken (C' := Sep w0 (dpL d vS vT vs ++ .raw 29 g3 [vS, vT] :: L0)) (fun w' h => h.perm List.perm_middle.symm) ?_)
  try any_goals (refine W_assign (d := 6) (sq_stepper upC_sep) rfl rfl rfl ?_)
  try any_goals (first | (refine Sq_nil ?_; try refine G_then ?_) | refine G_then ?_)
  try any_goals (first | (refine H_seq ?_; try refine H_reg ?_) | refine H_reg ?_)
  try any_goals (refine W_assign (d := 7) (sq_stepper upC_sep) rfl rfl rfl ?_)
  try any_goals (first | (refine Sq_nil ?_; try refine G_then ?_) | refine G_then ?_)
  try any_goals (refine H_seq ?_)
  try any_goals (first | (refine H_seq ?_; try refine H_reg ?_) | refine H_reg ?_)
  try any_goals (refine W_move (d := 10) (sq_stepper upC_sep) rfl rfl rfl ?_)
  try any_goals (refine W_lenR (d := 11) (sq_stepper upC_sep) (xs := ms) (fun w' h => UR.lift (Sep.ext h) hml) (by kernel_rfl) rfl rfl rfl ?_)
  try any_goals (refine W_move (d := 12) (sq_stepper upC_sep) rfl rfl rfl ?_)
  try any_goals (first | (refine Sq_nil ?_; try refine G_then ?_) | refine G_then ?_)
  try any_goals (refine H_block ?_)
  try any_goals ((refine H_loop (σ := Nat × Dep × Nat × List Value) (fun x => x.1 ≤ ms.length ∧ rmGo tr (ms.drop x.1) x.2.1 x.2.2.1 x.1 = rmGo tr ms d 0 0 ∧ DvI x.2.1 ∧ x.2.1.T.length = d.T.length ∧ x.2.2.2.length = d.T.length ∧ x.2.2.1 ≤ tr.length) (fun x => [(1, .inl vl), (2, .inl vt), (3, .inl (.pointer (some ⟨g3, 0, none⟩))), (7, .inl (.int .i64 x.2.2.1)), (10, .inl vl), (11, .inl (.int .i64 ms.length)), (12, .inl (.int .i64 x.1))]) (fun x => Sep w0 (dpL x.2.1 vS vT x.2.2.2 ++ .raw 29 g3 [vS, vT] :: L0)) (fun x => ms.length - x.1) (0, d, 0, vs) ⟨Nat.zero_le _, rfl, hd, rfl, hl, Nat.zero_le _⟩ (fun a w' h => h.sub (by repeat (first | exact trivial | refine ⟨⟨_, rfl, fun _ _ _ h => h⟩, ?_⟩ | refine ⟨⟨_, rfl, fun v w _ h => (show v = _ from h).trans (congrArg (Value.int .i64) (by first | omega | (dsimp only; omega)))⟩, ?_⟩)) (fun w' h => h)) (fun x hx => ?_); obtain ⟨i, dd, u, vi⟩ := x; obtain ⟨hi, hgo, hdd, hdl, hvl, hut⟩ := hx; simp only at hi hgo hdd hdl hvl hut; have hvd : vi.length = dd.T.length := hvl.trans hdl.symm; have hC : UpC (Sep w0 (dpL dd vS vT vi ++ .raw 29 g3 [vS, vT] :: L0)) := upC_sep))
  try any_goals (first | (refine H_seq ?_; try refine H_reg ?_) | refine H_reg ?_)
  try any_goals (first | refine W_cmp (d := 13) (sq_stepper upC_sep) rfl rfl rfl rfl rfl ?_ | refine W_strcmp (d := 13) (sq_stepper upC_sep) rfl rfl rfl rfl rfl ?_)
  try any_goals (first | (refine Sq_nil ?_; try refine G_then ?_) | refine G_then ?_)
  try any_goals (refine H_seq ?_)
  try any_goals (first | refine H_condT rfl ?_ | refine H_condF rfl (Wt.un 0 ?_) | (refine H_cond _ rfl (fun hq => ?_) (fun hq => Wt.un 0 ?_) <;> (try simp only [hqs, reduceCtorEq] at hq)))
  try any_goals (refine H_skip ?_)
  try any_goals (refine G_hold 1 ?_)
  try any_goals (refine Wt.out 0 ?_)
  try any_goals (refine H_exit ?_)
  repeat (any_goals (first | refine G_exit_then ?_ | refine G_exit_here ?_ | refine G_exit_far rfl ?_))
  try any_goals (refine G_hold 2 ?_)
  try any_goals (refine Wt.out 1 ?_)
  try any_goals (refine G_then ?_)
  try any_goals (refine H_seq ?_)
  try any_goals (refine H_block ?_)
  try any_goals (first | (refine H_seq ?_; try refine H_reg ?_) | refine H_reg ?_)
  try any_goals (refine W_move (d := 14) (sq_stepper upC_sep) rfl rfl rfl ?_)
  try any_goals (refine W_indexR (d := 15) (sq_stepper upC_sep) (xs := ms) (fun w' h => UR.lift (Sep.ext h) hml) (by kernel_rfl) rfl rfl rfl rfl ⟨by omega, by omega⟩ ?_)
  try any_goals (refine W_loadA (d := 16) (sq_stepper upC_sep) (by kernel_rfl) rfl rfl rfl ?_)
  try any_goals (refine Sq_alloc (d := 9) (by kernel_rfl) hC rfl ?_)
  try any_goals (refine Pend_mv (.inr rfl) rfl rfl rfl ?_)
  try any_goals (first | refine Pend_storeA (by kernel_rfl) hC rfl rfl ?_ | refine Pend_storeI (by kernel_rfl) hC rfl rfl ?_)
  try any_goals (first | (refine Sq_nil ?_; try refine G_then ?_) | refine G_then ?_)
  try any_goals (refine H_seq ?_)
  try any_goals (first | (refine H_seq ?_; try refine H_reg ?_) | refine H_reg ?_)
  try any_goals (first | refine W_fieldG (d := 17) (sq_stepper upC_sep) (Proj.tail _ _ (Proj.head _ _ _)) (by kernel_rfl) rfl rfl rfl ?_ | refine W_fieldC (d := 17) (sq_stepper upC_sep) (off := 1) (by kernel_rfl) rfl rfl rfl ?_)
  try any_goals (refine W_loadB (d := 18) (sq_stepper upC_sep) (by kernel_rfl) rfl rfl rfl ?_)
  try any_goals (first | (refine Sq_nil ?_; try refine G_then ?_) | refine G_then ?_)
  try any_goals (first | refine H_condT rfl ?_ | refine H_condF rfl (Wt.un 3 ?_) | (refine H_cond _ rfl (fun hq => ?_) (fun hq => Wt.un 3 ?_) <;> (try simp only [hqs, reduceCtorEq] at hq)))
  try any_goals (refine H_seq ?_)
  try any_goals (first | (refine H_seq ?_; try refine H_reg ?_) | refine H_reg ?_)
  try any_goals (refine W_loadRawA (d := 19) (dpL dd vS vT vi).length (sq_stepper upC_sep) get_mid (by kernel_rfl) rfl rfl rfl rfl ?_)
  try any_goals (first | refine W_fieldG (d := 20) (sq_stepper upC_sep) (Proj.head _ _ _) (by kernel_rfl) rfl rfl rfl ?_ | refine W_fieldC (d := 20) (sq_stepper upC_sep) (off := 0) (by kernel_rfl) rfl rfl rfl ?_)
  try any_goals (refine W_loadI (d := 21) (sq_stepper upC_sep) (by kernel_rfl) rfl rfl rfl ?_)
  try any_goals ((refine Sq_ctx (cx_take dd (ix ms i).V vS vT vi hvd hdd (L0 := .raw 29 g3 [vS, vT] :: L0) ⟨trivial, ha⟩) rfl rfl (by kernel_rfl) (fun v2 => ?_); refine Sq_pure (fun hv2 => ?_)))
  try any_goals (refine W_not (d := 23) (sq_stepper upC_sep) rfl rfl rfl ?_)
  try any_goals (first | (refine Sq_nil ?_; try refine G_then ?_) | refine G_then ?_)
  try any_goals (first | refine H_condT rfl ?_ | refine H_condF rfl (Wt.un 5 ?_) | (refine H_cond _ rfl (fun hq => ?_) (fun hq => Wt.un 5 ?_) <;> (try simp only [hqs, reduceCtorEq] at hq)))
  try any_goals (first | (refine H_seq ?_; try refine H_reg ?_) | refine H_reg ?_)
  try any_goals (refine W_move (d := 24) (sq_stepper upC_sep) rfl rfl rfl ?_)
  try any_goals (refine W_assign (d := 6) (sq_stepper upC_sep) rfl rfl rfl ?_)
  try any_goals (first | (refine Sq_nil ?_; try refine G_then ?_) | refine G_then ?_)
  try any_goals (refine H_ret ?_)
  repeat (any_goals (first | refine G_ret_then ?_ | refine G_ret_block ?_))
  try any_goals (refine G_hold 6 ?_)
  try any_goals (refine Wt.out 5 ?_)
  try any_goals (refine H_skip ?_)
  try any_goals (refine Wt.out 6 ?_)
  try any_goals (refine G_then ?_)
  try any_goals (refine H_exit ?_)
  repeat (any_goals (first | refine G_exit_then ?_ | refine G_exit_here ?_ | refine G_exit_far rfl ?_))
  try any_goals (refine G_hold 4 ?_)
  try any_goals (refine Wt.out 3 ?_)
  try any_goals (refine H_skip ?_)
  try any_goals (refine Wt.out 4 ?_)
  try any_goals (refine G_then ?_)
  try any_goals (refine H_seq ?_)
  try any_goals (refine H_seq ?_)
  try any_goals (refine H_draw' (by kernel_rfl) upC_sep ?_)
  try any_goals (refine W_move (d := 25) wk_stepper rfl rfl rfl ?_)
  try any_goals (refine W_move (d := 26) wk_stepper rfl rfl rfl ?_)
  try any_goals (refine W_lenR (d := 27) wk_stepper (xs := tr) (fun w' h => UR.lift (Sep.ext h) hmt) (by kernel_rfl) rfl rfl rfl ?_)
  try any_goals (first | refine W_cmp (d := 28) wk_stepper rfl rfl rfl rfl rfl ?_ | refine W_eqlStr (d := 28) wk_stepper rfl rfl rfl rfl ?_ | refine W_eqlB (d := 28) wk_stepper rfl rfl Try.underlying4 rfl rfl ?_)
  try any_goals (refine W_move (d := 29) wk_stepper rfl rfl rfl ?_)
  try any_goals (first | refine W_gT (d := 30) wk_stepper _ rfl rfl ?_ | refine W_gF (d := 30) wk_stepper _ rfl rfl ?_ | (refine W_splitG wk_stepper _ rfl _ rfl (fun hq => ?_) (fun hq => ?_) <;> ((try simp only [hqs, reduceCtorEq] at hq); try (have hq' := hq; clear hq))))
  try any_goals (first | refine W_skip (d := 30) wk_stepper rfl rfl ?_ | refine W_loadRawA (d := 30) (dpL dd vS vT vi).length wk_stepper get_mid (by kernel_rfl) rfl rfl rfl rfl ?_)
  try any_goals (first | refine W_skip (d := 31) wk_stepper rfl rfl ?_ | refine W_fieldG (d := 31) wk_stepper (Proj.head _ _ _) (by kernel_rfl) rfl rfl rfl ?_ | refine W_fieldC (d := 31) wk_stepper (off := 0) (by kernel_rfl) rfl rfl rfl ?_)
  try any_goals (first | refine W_skip (d := 32) wk_stepper rfl rfl ?_ | refine W_loadI (d := 32) wk_stepper (by kernel_rfl) rfl rfl rfl ?_)
  try any_goals (first | refine W_skip (d := 33) wk_stepper rfl rfl ?_ | refine W_move (d := 33) wk_stepper rfl rfl rfl ?_)
  try any_goals (first | refine W_skip (d := 34) wk_stepper rfl rfl ?_ | refine W_move (d := 34) wk_stepper rfl rfl rfl ?_)
  try any_goals (first | refine W_skip (d := 35) wk_stepper rfl rfl ?_ | refine W_indexR (d := 35) wk_stepper (xs := tr) (fun w' h => UR.lift (Sep.ext h) hmt) (by kernel_rfl) rfl rfl rfl rfl ⟨by dsimp only; omega, by dsimp only; omega⟩ ?_)
  try any_goals (first | refine W_skip (d := 36) wk_stepper rfl rfl ?_ | refine W_loadI (d := 36) wk_stepper (by kernel_rfl) rfl rfl rfl ?_)
  try any_goals (refine Wk_call (by kernel_rfl) (by kernel_rfl) ?_)
  try any_goals (first | refine W_skip (d := 37) (sq_stepper upC_sep) rfl rfl ?_ | (refine Sq_ctxG (cx_park dd (ix ms i).V (ix tr u) vS vT vi hvd hdd (L0 := .raw 29 g3 [vS, vT] :: L0) ⟨trivial, ha⟩ ⟨trivial, hai⟩) rfl rfl rfl (by kernel_rfl) (fun v2 => ?_); refine Sq_pure (fun hv2 => ?_)))
  try any_goals (first | refine W_skip (d := 38) (sq_stepper upC_sep) rfl rfl ?_ | refine W_not (d := 38) (sq_stepper upC_sep) rfl rfl rfl ?_)
  try any_goals (first | refine W_pickT (d := 39) (sq_stepper upC_sep) rfl rfl rfl rfl ?_ | refine W_pickF (d := 39) (sq_stepper upC_sep) rfl rfl rfl rfl ?_)
  try any_goals (first | (refine Sq_nil ?_; try refine G_then ?_) | refine G_then ?_)
  try any_goals (first | refine H_condT rfl ?_ | refine H_condF rfl (Wt.un 7 ?_) | (refine H_cond _ rfl (fun hq => ?_) (fun hq => Wt.un 7 ?_) <;> (try simp only [hqs, reduceCtorEq] at hq)))
  try any_goals (first | (refine H_seq ?_; try refine H_reg ?_) | refine H_reg ?_)
  try any_goals (refine W_move (d := 40) (sq_stepper upC_sep) rfl rfl rfl ?_)
  try any_goals (refine W_assign (d := 6) (sq_stepper upC_sep) rfl rfl rfl ?_)
  try any_goals (first | (refine Sq_nil ?_; try refine G_then ?_) | refine G_then ?_)
  try any_goals (refine H_ret ?_)
  repeat (any_goals (first | refine G_ret_then ?_ | refine G_ret_block ?_))
  try any_goals (refine G_hold 8 ?_)
  try any_goals (refine Wt.out 7 ?_)
  try any_goals (refine H_skip ?_)
  try any_goals (refine Wt.out 8 ?_)
  try any_goals (refine G_then ?_)
  try any_goals (refine H_reg ?_)
  try any_goals (refine W_move (d := 41) (sq_stepper upC_sep) rfl rfl rfl ?_)
  try any_goals (refine W_ar (d := 42) (sq_stepper upC_sep) rfl rfl rfl rfl rfl (by first | omega | (dsimp only; omega)) ?_)
  try any_goals (refine W_assign (d := 7) (sq_stepper upC_sep) rfl rfl rfl ?_)
  try any_goals (refine Sq_nil ?_)
  repeat (any_goals (first | refine G_exit_then ?_ | refine G_exit_here ?_ | refine G_exit_far rfl ?_ | refine G_normal_block ?_))
  try any_goals (refine G_then ?_)
  try any_goals (refine H_reg ?_)
  try any_goals (refine W_ar (d := 43) (sq_stepper upC_sep) rfl rfl rfl rfl rfl (by first | omega | (dsimp only; omega)) ?_)
  try any_goals (refine W_move (d := 12) (sq_stepper upC_sep) rfl rfl rfl ?_)
  try any_goals (refine Sq_nil ?_)
  try any_goals (first | refine G_again (i + 1, tkD dd (ix ms i).V, u, v2) ⟨by simp only; omega, ?_, hdd.tkD, ?_, ?_, by simp only; omega⟩ (by simp only; omega) (by repeat (first | exact trivial | refine ⟨⟨_, rfl, fun _ _ _ h => h⟩, ?_⟩ | refine ⟨⟨_, rfl, fun v w _ h => (show v = _ from h).trans (congrArg (Value.int .i64) (by first | omega | (dsimp only; omega)))⟩, ?_⟩)) (fun w' h => h) | refine G_again (i + 1, pkD dd (ix ms i).V (ix tr u), u + 1, v2) ⟨by simp only; omega, ?_, hdd.pkD, ?_, ?_, by simp only; omega⟩ (by simp only; omega) (by repeat (first | exact trivial | refine ⟨⟨_, rfl, fun _ _ _ h => h⟩, ?_⟩ | refine ⟨⟨_, rfl, fun v w _ h => (show v = _ from h).trans (congrArg (Value.int .i64) (by first | omega | (dsimp only; omega)))⟩, ?_⟩)) (fun w' h => h))
  try any_goals (refine Wt.out 2 ?_)
  repeat (any_goals (first | refine G_exit_then ?_ | refine G_exit_here ?_ | refine G_exit_far rfl ?_ | refine G_normal_block ?_))
  try any_goals (refine G_then ?_)
  try any_goals (first | (refine H_seq ?_; try refine H_reg ?_) | refine H_reg ?_)
  try any_goals (refine W_move (d := 44) (sq_stepper upC_sep) rfl rfl rfl ?_)
  try any_goals (refine W_lenR (d := 45) (sq_stepper upC_sep) (xs := ms) (fun w' h => UR.lift (Sep.ext h) hml) (by kernel_rfl) rfl rfl rfl ?_)
  try any_goals (refine W_assign (d := 6) (sq_stepper upC_sep) rfl rfl rfl ?_)
  try any_goals (first | (refine Sq_nil ?_; try refine G_then ?_) | refine G_then ?_)
  try any_goals (refine H_ret ?_)
  repeat (any_goals (first | refine G_ret_then ?_ | refine G_ret_block ?_))
  all_goals (try dsimp only)
  all_goals (try have hlt : u < tr.length ∨ tr.length ≤ u := Nat.lt_or_ge u tr.length)
  all_goals first
    | (have h1 := rm_tk (d := dd) (u := u) (tr := tr) (m := ix ms i) (by assumption)
       have h2 := rmGo_n (d := dd) (u := u) (tr := tr) (ms := ms) (i := i) (by omega) (h1.1.trans (by assumption))
       rw [tkD_n (by assumption)]
       exact RX1 rfl rfl (fun v w' hc hv => ⟨v2, by rw [← hgo, h2]; exact ⟨drop_mid hc, hv2.trans hdl⟩, by rw [← hgo, h2]; exact hv⟩))
    | (have h1 := rm_tk (d := dd) (u := u) (tr := tr) (m := ix ms i) (by assumption)
       have h2 := rmGo_y (d := dd) (u := u) (tr := tr) (ms := ms) (i := i) (by omega) (h1.1.trans (by assumption))
       rw [h1.2.1, h1.2.2] at h2
       exact h2.trans hgo)
    | exact tkD_l.trans hdl
    | exact pkD_l.trans hdl
    | exact hv2.trans hdl
    | (have h1 := rm_pk (d := dd) (u := u) (tr := tr) (m := ix ms i) (by assumption)
       have h2 := rmGo_n (d := dd) (u := u) (tr := tr) (ms := ms) (i := i) (by omega) (h1.1.trans (by rw [decide_eq_false (by omega)]; rfl))
       exact RX1 rfl rfl (fun v w' hc hv => ⟨vi, by rw [← hgo, h2]; exact ⟨drop_mid hc, hvl⟩, by rw [← hgo, h2]; exact hv⟩))
    | (have h1 := rm_pk (d := dd) (u := u) (tr := tr) (m := ix ms i) (by assumption)
       have hpf : pkB dd (ix ms i).V (ix tr u) = false := by assumption
       have h2 := rmGo_n (d := dd) (u := u) (tr := tr) (ms := ms) (i := i) (by omega) (h1.1.trans (by rw [hpf, Bool.and_false]))
       rw [pkD_n hpf]
       exact RX1 rfl rfl (fun v w' hc hv => ⟨v2, by rw [← hgo, h2]; exact ⟨drop_mid hc, hv2.trans hdl⟩, by rw [← hgo, h2]; exact hv⟩))
    | (have h1 := rm_pk (d := dd) (u := u) (tr := tr) (m := ix ms i) (by assumption)
       have hpf : pkB dd (ix ms i).V (ix tr u) = true := by assumption
       have h2 := rmGo_y (d := dd) (u := u) (tr := tr) (ms := ms) (i := i) (by omega) (h1.1.trans (by rw [hpf, decide_eq_true (by omega)]; rfl))
       rw [h1.2.1, h1.2.2] at h2
       exact h2.trans hgo)
    | (have h2 := rmGo_e (d := dd) (u := u) (tr := tr) (ms := ms) (i := i) (by omega)
       exact RX1 rfl rfl (fun v w' hc hv => ⟨vi, by rw [← hgo, h2]; exact ⟨drop_mid hc, hvl⟩, by rw [← hgo, h2, show i = ms.length by omega]; exact hv⟩))
    | trace_state
end Go.Proofs.Ytbipnenkgkebjaa

/- The trips that serve a flow: the program's side, and the two functions. -/
import Derived.Test.YtfnihicngoaejaaServ
import Derived.Test.YtfnihicngoaejaaTabO
namespace Go.Proofs.Ytfnihicngoaejaa
set_option linter.unusedSimpArgs false
set_option linter.unusedVariables false
open Go.RowKit Go.ChangeShapes Go.WideShapes Go.ChangeAt Go.Deep
theorem svLt_eq : (fun a b : Sv => decide (cmpN a.a b.a < 0)) = svLt := by
  funext a b
  unfold svLt cmpN
  by_cases h : a.a < b.a
  · simp [h]
  · simp only [h, if_false, decide_false]
    split <;> simp
theorem flat_Sv : Flat pSv := by repeat (first | exact flat_nil | exact flat_I | exact flat_B | refine flat_cat ?_ ?_)
def oSvS : Ow (List Sv) := oF 93 pSv flat_Sv
theorem tim_ix {t : Tab} {i k : Int} (h0 : 0 ≤ k) (h1 : k < (trLin t i).S.length) : ix (timT t (ix t.T i)) k = svT t i k := by
  have hk : k.toNat < (trLin t i).S.length := by omega
  have := ix_lstI (f := timF t (ix t.T i)) (n := (trLin t i).S.length) (i := k.toNat) hk
  rw [show ((k.toNat : Nat) : Int) = k by omega] at this
  exact this
section
variable {P : Program} {ops : Array Oper} {C : World → Prop} {N : Nat} {M : List (Nat × Pr) → List Oper → Prop} {K : List (Nat × Pr)} {rest : List Oper} {d : Nat} {op : Op} {ty : TypeId} {pos : String} {af : Array Edge} {g : Option (Nat × Bool)}
theorem W_buildQuad (hM : Stepper P ops C N M) {α : Type} (Ψ : Phi α) (z : α) {x0 x1 x2 x3 : Operand} {n0 n1 n2 n3 : Int} {t : TypeId} (cs : List Value) (h0 : kn K x0 = some (.inl (.int .i64 n0))) (h1 : kn K x1 = some (.inl (.int .i64 n1))) (h2 : kn K x2 = some (.inl (.int .i64 n2))) (h3 : kn K x3 = some (.inl (.int .i64 n3)))
    (hb : P.built t [(0, .int .i64 n0), (1, .int .i64 n1), (2, .int .i64 n2), (3, .int .i64 n3)] = some cs.toArray) (hφ : ∀ w, Ψ.φ z cs w) (hg : wantedK ops K g = some true) (hN : Nat.blt d N = true)
    (h : M ((d, .inr (uA Ψ z)) :: K) rest) : M K (⟨some d, .build t #[(0, x0), (1, x1), (2, x2), (3, x3)], ty, pos, af, g⟩ :: rest) :=
  W_det hM (.inr (uA Ψ z)) hN hg (fun ρ w _ hk => ⟨.agg cs.toArray, by
    have e0 : ρ x0 = .int .i64 n0 := hk x0 (by simp [Op.operands]) _ h0
    have e1 : ρ x1 = .int .i64 n1 := hk x1 (by simp [Op.operands]) _ h1
    have e2 : ρ x2 = .int .i64 n2 := hk x2 (by simp [Op.operands]) _ h2
    have e3 : ρ x3 = .int .i64 n3 := hk x3 (by simp [Op.operands]) _ h3
    have hr := Go.run_build (P := P) w t #[(0, .int .i64 n0), (1, .int .i64 n1), (2, .int .i64 n2), (3, .int .i64 n3)] cs.toArray hb
    simp [execOp, e0, e1, e2, e3, hr], cs, rfl, hφ w⟩) h
end
theorem ct_svcmp (a b : Sv) : CT Try.prog 93 [.inl (.agg a.cs.toArray), .inl (.agg b.cs.toArray)] (.inl (.int .i64 (cmpN a.a b.a))) := by
  have key : CT Try.prog 93 [.inr (uA pSv a), .inr (uA pSv b)] (.inl (.int .i64 (cmpN a.a b.a))) := by
    refine CT_of Try.func93 rfl rfl rfl (fun w => ?_)
    have hC := upC_ext w
    try any_goals (refine H_seq ?_; try refine H_reg ?_)
    try any_goals (refine W_boxA (d := 2) (sq_stepper hC) rfl rfl rfl ?_)
    try any_goals (refine W_boxA (d := 3) (sq_stepper hC) rfl rfl rfl ?_)
    try any_goals (refine W_assign (d := 4) (sq_stepper hC) rfl rfl rfl ?_)
    try any_goals (refine Sq_nil ?_; try refine G_then ?_)
    try any_goals (refine H_seq ?_; try refine H_reg ?_)
    try any_goals (refine W_fieldG (d := 5) (sq_stepper hC) (Proj.tail _ _ (Proj.tail _ _ (Proj.tail _ _ (Proj.head _ _ _)))) (by kernel_rfl) rfl rfl rfl ?_)
    try any_goals (refine W_loadI (d := 6) (sq_stepper hC) (by kernel_rfl) rfl rfl rfl ?_)
    try any_goals (refine W_fieldG (d := 7) (sq_stepper hC) (Proj.tail _ _ (Proj.tail _ _ (Proj.tail _ _ (Proj.head _ _ _)))) (by kernel_rfl) rfl rfl rfl ?_)
    try any_goals (refine W_loadI (d := 8) (sq_stepper hC) (by kernel_rfl) rfl rfl rfl ?_)
    try any_goals (refine W_ct (d := 9) (sq_stepper hC) (ct_Compare _ _) rfl rfl rfl (by kernel_rfl) ?_)
    try any_goals (refine W_assign (d := 4) (sq_stepper hC) rfl rfl rfl ?_)
    try any_goals (refine Sq_nil ?_; try refine G_then ?_)
    try any_goals (refine H_ret ?_)
    repeat (any_goals (first | refine G_ret_then ?_ | refine G_ret_block ?_))
    all_goals exact R1v rfl (fun _ h => h) rfl rfl
  refine CT_mono (fun vs w h => ?_) key
  match vs, h with
  | [x, y], ⟨h1, h2, _⟩ => exact ⟨by rw [show x = _ from h1]; exact det_Sv.ok, by rw [show y = _ from h2]; exact det_Sv.ok, trivial⟩
theorem cg_services (t : Tab) (f : Flw) (hv : tabB t = true) : CTG Try.prog 62 [.inr (uA bTab t), .inr (uA pFlw f)] (fun s => .inr (uO s oSvS (svS t f))) := by
  have h12 := (tabB_k hv).2.1
  refine CTG_of Try.func62 rfl rfl rfl (fun w s hs => ?_)
  have hC := upC_ext w
  try any_goals (refine H_seq ?_; try refine H_reg ?_)
  try any_goals (refine W_boxA (d := 2) (sq_stepper hC) rfl rfl rfl ?_)
  try any_goals (refine W_boxA (d := 3) (sq_stepper hC) rfl rfl rfl ?_)
  try any_goals (refine W_assign (d := 4) (sq_stepper hC) rfl rfl rfl ?_)
  try any_goals (refine Sq_nil ?_; try refine G_then ?_)
  try any_goals (refine H_seq ?_; try refine H_reg ?_)
  try any_goals (refine W_assign (d := 5) (sq_stepper hC) rfl rfl rfl ?_)
  try any_goals (refine Sq_nil ?_; try refine G_then ?_)
  try any_goals (refine H_seq ?_)
  try any_goals (refine H_seq ?_)
  try any_goals (have hE : Ext _ _ := Ext.refl w)
  try any_goals (refine H_open 2 rfl (fun q u2 hw hr2 => ?_); have hE := hE.trans hw)
  try any_goals (refine H_open 3 rfl (fun q u3 hw hr3 => ?_); have hE := hE.trans hw; have hr2 := UR.lift hw hr2)
  try any_goals (refine H_weakenC (C' := Sep q []) (fun w' h => sep_start h) ?_; have hC : UpC (Sep q []) := upC_sep)
  try any_goals (obtain ⟨b, o, vT, rfl, hcT, hiT⟩ := tabP_open hr2)
  try any_goals (refine H_reg ?_)
  try any_goals (refine W_fieldC (d := 12) (sq_stepper upC_sep) (off := 2) (by kernel_rfl) rfl rfl rfl ?_)
  try any_goals (refine W_loadO (d := 13) (sq_stepper upC_sep) (by kernel_rfl) rfl rfl rfl (fun w' h => (Sep.ext h).cell hcT) ?_)
  try any_goals (refine W_lenR (d := 14) (sq_stepper upC_sep) (xs := t.T) (fun w' h => IsS.up (Sep.ext h) hiT) (by kernel_rfl) rfl rfl rfl ?_)
  try any_goals (refine W_move (d := 15) (sq_stepper upC_sep) rfl rfl rfl ?_)
  try any_goals (refine Sq_nil ?_; try refine G_then ?_)
  try any_goals (refine H_block ?_)
  try any_goals ((refine H_loop (σ := Nat × Value) (fun x => x.1 ≤ t.T.length) (fun x => [(2, .inl (.pointer (some ⟨b, o, none⟩))), (3, .inl u3), (5, .inl x.2), (13, .inl vT), (14, .inl (.int .i64 t.T.length)), (15, .inl (.int .i64 x.1))]) (fun x => Sep q [.sl Sv 93 pSv (svL t f x.1) x.2]) (fun x => t.T.length - x.1) (0, .slice none 0 0) (Nat.zero_le _) (fun a w' h => h.sub (by repeat (first | exact trivial | refine ⟨⟨_, rfl, fun _ _ _ h => h⟩, ?_⟩ | refine ⟨⟨_, rfl, fun v w _ h => (show v = _ from h).trans (congrArg (Value.int .i64) (by first | omega | (dsimp only; omega)))⟩, ?_⟩)) (fun w' h => Sep.nil _ _ _ h)) (fun x hi => ?_); obtain ⟨i, vi⟩ := x; simp only at hi))
  try any_goals (refine H_seq ?_; try refine H_reg ?_)
  try any_goals (refine W_cmp (d := 16) (sq_stepper upC_sep) rfl rfl rfl rfl rfl ?_)
  try any_goals (refine Sq_nil ?_; try refine G_then ?_)
  try any_goals (refine H_seq ?_)
  try any_goals ((refine H_cond _ rfl (fun hq => ?_) (fun hq => Wt.un 0 ?_) <;> (try simp only [hqs, reduceCtorEq] at hq)))
  try any_goals (first | ((have htr := tabB_at hv (i := (i : Int)) (by omega) (by omega); have hz := tabB_lin hv (i := (i : Int)) (by omega) (by omega); have hpb := fndI_bd (xs := (trLin t i).S) (v := f.F); have hqb := fndI_bd (xs := (trLin t i).S) (v := f.T); have hln := svL_len (t := t) (f := f) (i := i); have htl : ((timT t (ix t.T (i : Int))).length : Int) = (trLin t i).S.length := by rw [timT, lstI_length]; rfl)) | skip)
  try any_goals (refine H_skip ?_)
  try any_goals (refine G_hold 1 ?_)
  try any_goals (refine Wt.out 0 ?_)
  try any_goals (refine H_exit ?_)
  repeat (any_goals (first | refine G_exit_then ?_ | refine G_exit_here ?_ | refine G_exit_far rfl ?_))
  try any_goals (refine Wt.out 1 ?_)
  try any_goals (refine G_then ?_)
  try any_goals (refine H_seq ?_)
  try any_goals (refine H_block ?_)
  try any_goals (refine H_seq ?_; try refine H_reg ?_)
  try any_goals (refine W_move (d := 17) (sq_stepper upC_sep) rfl rfl rfl ?_)
  try any_goals (refine W_indexR (d := 18) (sq_stepper upC_sep) (xs := t.T) (fun w' h => IsS.up (Sep.ext h) hiT) (by kernel_rfl) rfl rfl rfl rfl (by omega) ?_)
  try any_goals (refine W_loadA (d := 19) (sq_stepper upC_sep) (by kernel_rfl) rfl rfl rfl ?_)
  try any_goals (refine Sq_allocL (d := 7) pTrp default [.int .i64 0, .int .i64 0, .int .i64 0] (by kernel_rfl) (fun w => ⟨[_], _, rfl, rfl, [_], _, rfl, rfl, [_], _, rfl, rfl, rfl⟩) (by kernel_rfl) rfl (fun v7 => ?_))
  try any_goals (refine W_assign (d := 6) (sq_stepper upC_sep) rfl rfl rfl ?_)
  try any_goals ((refine Sq_storeO1 0 (n := 3) (ix t.T i) rfl (by repeat (first | exact trivial | refine ⟨?_, ?_⟩)) rfl (by kernel_rfl) (Nat.le_refl _) rfl rfl hp_A ?_))
  try any_goals (refine Sq_nil ?_; try refine G_then ?_)
  try any_goals (refine H_seq ?_)
  try any_goals (refine H_draw' (by kernel_rfl) upC_sep ?_)
  try any_goals (refine W_loadUP (d := 20) wk_stepper (fun w' h => UR.lift (Sep.ext h) hr2) (by kernel_rfl) rfl rfl rfl ?_)
  try any_goals (refine W_load1A (d := 21) 0 wk_stepper (t := 88) rfl rfl (by kernel_rfl) rfl rfl rfl ?_)
  try any_goals (refine W_ct (d := 22) wk_stepper (ct_lineOf _ (ix t.T i) (by omega)) rfl rfl rfl (by kernel_rfl) ?_)
  try any_goals (refine W_fieldVS (d := 23) wk_stepper (Proj.tail _ _ (Proj.head _ _ _)) (by kernel_rfl) rfl rfl rfl ?_)
  try any_goals (refine W_loadUP (d := 24) wk_stepper (fun w' h => UR.lift (Sep.ext h) hr2) (by kernel_rfl) rfl rfl rfl ?_)
  try any_goals (refine W_load1A (d := 25) 0 wk_stepper (t := 88) rfl rfl (by kernel_rfl) rfl rfl rfl ?_)
  try any_goals (refine W_ct (d := 26) wk_stepper ((cg_stopTimes t (ix t.T i) (by omega) hz (by omega)).ct (R' := .inr (uS (some 3) pI (timT t (ix t.T i)))) (fun s v w ⟨S, _, h⟩ => OS.isS h)) rfl rfl rfl (by kernel_rfl) ?_)
  try any_goals (refine Wk_assign (by kernel_rfl) (by kernel_rfl) ?_)
  try any_goals (refine W_assign (d := 8) (sq_stepper upC_sep) rfl rfl rfl ?_)
  try any_goals (refine W_assign (d := 9) (sq_stepper upC_sep) rfl rfl rfl ?_)
  try any_goals (refine Sq_nil ?_; try refine G_then ?_)
  try any_goals (refine H_seq ?_)
  try any_goals (refine H_draw' (by kernel_rfl) upC_sep ?_)
  try any_goals (refine W_move (d := 27) wk_stepper rfl rfl rfl ?_)
  try any_goals (refine W_fieldUP (d := 28) wk_stepper (fun w' h => UR.lift (Sep.ext h) hr3) (Proj.head _ _ _) (by kernel_rfl) rfl rfl rfl ?_)
  try any_goals (refine W_loadI (d := 29) wk_stepper (by kernel_rfl) rfl rfl rfl ?_)
  try any_goals (refine W_ct (d := 30) wk_stepper (ct_IndexInt (trLin t i).S _) rfl rfl rfl (by kernel_rfl) ?_)
  try any_goals (refine W_move (d := 31) wk_stepper rfl rfl rfl ?_)
  try any_goals (refine W_fieldUP (d := 32) wk_stepper (fun w' h => UR.lift (Sep.ext h) hr3) (Proj.tail _ _ (Proj.head _ _ _)) (by kernel_rfl) rfl rfl rfl ?_)
  try any_goals (refine W_loadI (d := 33) wk_stepper (by kernel_rfl) rfl rfl rfl ?_)
  try any_goals (refine W_ct (d := 34) wk_stepper (ct_IndexInt (trLin t i).S _) rfl rfl rfl (by kernel_rfl) ?_)
  try any_goals (refine Wk_assign (by kernel_rfl) (by kernel_rfl) ?_)
  try any_goals (refine W_assign (d := 10) (sq_stepper upC_sep) rfl rfl rfl ?_)
  try any_goals (refine W_assign (d := 11) (sq_stepper upC_sep) rfl rfl rfl ?_)
  try any_goals (refine Sq_nil ?_; try refine G_then ?_)
  try any_goals (refine H_seq ?_)
  try any_goals (refine H_draw' (by kernel_rfl) upC_sep ?_)
  try any_goals (refine W_move (d := 35) wk_stepper rfl rfl rfl ?_)
  try any_goals (refine W_cmp (d := 36) wk_stepper rfl rfl rfl rfl rfl ?_)
  try any_goals (refine W_move (d := 37) wk_stepper rfl rfl rfl ?_)
  try any_goals ((refine W_splitG wk_stepper _ rfl _ rfl (fun hq => ?_) (fun hq => ?_) <;> ((try simp only [hqs, reduceCtorEq] at hq); try (have hq' := hq; clear hq))))
  try any_goals (first | refine W_skip (d := 38) wk_stepper rfl rfl ?_ | refine W_move (d := 38) wk_stepper rfl rfl rfl ?_)
  try any_goals (first | refine W_skip (d := 39) wk_stepper rfl rfl ?_ | refine W_move (d := 39) wk_stepper rfl rfl rfl ?_)
  try any_goals (first | refine W_skip (d := 40) wk_stepper rfl rfl ?_ | refine W_cmp (d := 40) wk_stepper rfl rfl rfl rfl rfl ?_)
  try any_goals (first | refine W_pickT (d := 41) wk_stepper rfl rfl rfl rfl ?_ | refine W_pickF (d := 41) wk_stepper rfl rfl rfl rfl ?_)
  try any_goals (refine W_move (d := 42) wk_stepper rfl rfl rfl ?_)
  try any_goals ((refine W_splitG wk_stepper _ rfl _ rfl (fun hq => ?_) (fun hq => ?_) <;> ((try simp only [hqs, reduceCtorEq] at hq); try (have hq' := hq; clear hq))))
  try any_goals (first | refine W_skip (d := 43) wk_stepper rfl rfl ?_ | refine W_move (d := 43) wk_stepper rfl rfl rfl ?_)
  try any_goals (first | refine W_skip (d := 44) wk_stepper rfl rfl ?_ | refine W_move (d := 44) wk_stepper rfl rfl rfl ?_)
  try any_goals (first | refine W_skip (d := 45) wk_stepper rfl rfl ?_ | refine W_index (d := 45) wk_stepper (by kernel_rfl) rfl rfl rfl rfl (by first | omega | (dsimp only; omega)) ?_)
  try any_goals (first | refine W_skip (d := 46) wk_stepper rfl rfl ?_ | refine W_loadI (d := 46) wk_stepper (by kernel_rfl) rfl rfl rfl ?_)
  try any_goals (first | refine W_skip (d := 47) wk_stepper rfl rfl ?_ | refine W_fieldUP (d := 47) wk_stepper (fun w' h => UR.lift (Sep.ext h) hr3) (Proj.tail _ _ (Proj.tail _ _ (Proj.head _ _ _))) (by kernel_rfl) rfl rfl rfl ?_)
  try any_goals (first | refine W_skip (d := 48) wk_stepper rfl rfl ?_ | refine W_loadI (d := 48) wk_stepper (by kernel_rfl) rfl rfl rfl ?_)
  try any_goals (first | refine W_skip (d := 49) wk_stepper rfl rfl ?_ | refine W_cmp (d := 49) wk_stepper rfl rfl rfl rfl rfl ?_)
  try any_goals (first | refine W_pickT (d := 50) wk_stepper rfl rfl rfl rfl ?_ | refine W_pickF (d := 50) wk_stepper rfl rfl rfl rfl ?_)
  try any_goals (refine Wk_end (by kernel_rfl) (by kernel_rfl) ?_)
  try any_goals (refine G_then ?_)
  try any_goals (first | refine H_condF rfl (Wt.un 2 ?_) | (refine H_cond _ rfl (fun hq => ?_) (fun hq => Wt.un 2 ?_) <;> (try simp only [hqs, reduceCtorEq] at hq)))
  try any_goals (first | ((have htr := tabB_at hv (i := (i : Int)) (by omega) (by omega); have hz := tabB_lin hv (i := (i : Int)) (by omega) (by omega); have hpb := fndI_bd (xs := (trLin t i).S) (v := f.F); have hqb := fndI_bd (xs := (trLin t i).S) (v := f.T); have hln := svL_len (t := t) (f := f) (i := i); have htl : ((timT t (ix t.T (i : Int))).length : Int) = (trLin t i).S.length := by rw [timT, lstI_length]; rfl)) | skip)
  try any_goals (refine H_reg ?_)
  try any_goals (refine W_move (d := 51) (sq_stepper upC_sep) rfl rfl rfl ?_)
  try any_goals (refine W_move (d := 52) (sq_stepper upC_sep) rfl rfl rfl ?_)
  try any_goals (refine W_move (d := 53) (sq_stepper upC_sep) rfl rfl rfl ?_)
  try any_goals (refine W_move (d := 54) (sq_stepper upC_sep) rfl rfl rfl ?_)
  try any_goals (refine W_move (d := 55) (sq_stepper upC_sep) rfl rfl rfl ?_)
  try any_goals (refine W_move (d := 56) (sq_stepper upC_sep) rfl rfl rfl ?_)
  try any_goals (refine W_index (d := 57) (sq_stepper upC_sep) (by kernel_rfl) rfl rfl rfl rfl (by first | omega | (dsimp only; omega)) ?_)
  try any_goals (refine W_loadI (d := 58) (sq_stepper upC_sep) (by kernel_rfl) rfl rfl rfl ?_)
  try any_goals (refine W_buildQuad (d := 59) (sq_stepper upC_sep) pSv (svX t f i) (svX t f i).cs rfl rfl rfl rfl (by rw [tim_ix (by omega) (by omega)]; kernel_rfl) (pSv_i _) rfl rfl ?_)
  try any_goals (refine W_buildS (d := 60) (sq_stepper upC_sep) [(Operand.tmp 59)] pSv [_] (e := 93) (by kernel_rfl) (by kernel_rfl) rfl rfl (by kernel_rfl) rfl rfl rfl ⟨elem_A, trivial⟩ ?_)
  try any_goals ((refine Sq_appS (d := 61) 1 (Ψ := pSv) rfl (by repeat (first | exact trivial | refine ⟨?_, ?_⟩)) (by kernel_rfl) (by kernel_rfl) rfl rfl rfl ⟨by simp only [List.length_cons, List.length_nil]; omega, by simp⟩ (fun va => ?_)))
  try any_goals (refine W_assign (d := 5) (sq_stepper upC_sep) rfl rfl rfl ?_)
  try any_goals (refine Sq_nil ?_)
  try any_goals (refine Wt.out 2 ?_)
  try any_goals (refine H_skip ?_)
  repeat (any_goals (first | refine G_exit_then ?_ | refine G_exit_here ?_ | refine G_exit_far rfl ?_ | refine G_normal_block ?_))
  try any_goals (refine G_then ?_)
  try any_goals (refine H_reg ?_)
  try any_goals (refine W_ar (d := 62) (sq_stepper upC_sep) rfl rfl rfl rfl rfl (by first | omega | (dsimp only; omega)) ?_)
  try any_goals (refine W_move (d := 15) (sq_stepper upC_sep) rfl rfl rfl ?_)
  try any_goals (refine Sq_nil ?_)
  try any_goals (first | refine G_again (i + 1, va) (by simp only; omega) (by simp only; omega) (by repeat (first | exact trivial | refine ⟨⟨_, rfl, fun _ _ _ h => h⟩, ?_⟩ | refine ⟨⟨_, rfl, fun v w _ h => (show v = _ from h).trans (congrArg (Value.int .i64) (by first | omega | (dsimp only; omega)))⟩, ?_⟩)) (fun w' h => ?_) | refine G_again (i + 1, vi) (by simp only; omega) (by simp only; omega) (by repeat (first | exact trivial | refine ⟨⟨_, rfl, fun _ _ _ h => h⟩, ?_⟩ | refine ⟨⟨_, rfl, fun v w _ h => (show v = _ from h).trans (congrArg (Value.int .i64) (by first | omega | (dsimp only; omega)))⟩, ?_⟩)) (fun w' h => ?_))
  repeat (any_goals (first | refine G_exit_then ?_ | refine G_exit_here ?_ | refine G_exit_far rfl ?_ | refine G_normal_block ?_))
  try any_goals (refine W_move (d := 63) (sq_stepper upC_sep) rfl rfl rfl ?_)
  try any_goals ((refine Sq_ctx (cs_Sv 0 (cf := fun a b => cmpN a.a b.a) (pr := fun _ => True) rfl (by repeat (first | exact trivial | refine ⟨?_, ?_⟩)) (fun ys => FunC.of0 (by kernel_rfl) ct_svcmp) (fun _ _ => trivial) (by have := svL_len (t := t) (f := f) (i := i); first | omega | (dsimp only; omega))) rfl rfl (by kernel_rfl) (fun _ => ?_)))
  try any_goals (refine Sq_nil ?_; try refine G_then ?_)
  try any_goals (refine H_seq ?_; try refine H_reg ?_)
  try any_goals (refine W_move (d := 65) (sq_stepper upC_sep) rfl rfl rfl ?_)
  try any_goals (refine W_assign (d := 4) (sq_stepper upC_sep) rfl rfl rfl ?_)
  try any_goals (refine Sq_nil ?_; try refine G_then ?_)
  try any_goals (refine H_ret ?_)
  repeat (any_goals (first | refine G_ret_then ?_ | refine G_ret_block ?_))
  all_goals (try dsimp only)
  all_goals first
    | (rw [svL_y (svOk_y ⟨by omega, by omega, by rw [tim_ix (by omega) (by omega)] at hq; exact hq⟩)]; exact h.drop)
    | (rw [svL_n (svOk_n (fun hh => by rw [tim_ix (by omega) (by omega)] at hq; exact absurd hq (Int.not_lt.2 hh.2.2)))]; exact h.drop)
    | (rw [svL_n (svOk_n (by omega))]; exact h.drop)
    | (have e : i = t.T.length := by omega
       subst e
       exact R1 rfl (fun _ h => hE.trans h.ext) rfl (fun v w' hc hv => by
         rw [show v = _ from hv]
         have := hc.isO (m := 0) (hfl := flat_Sv) rfl (Nat.le_trans hs hE.size)
         rw [svLt_eq] at this
         exact this))
    | trace_state
end Go.Proofs.Ytfnihicngoaejaa

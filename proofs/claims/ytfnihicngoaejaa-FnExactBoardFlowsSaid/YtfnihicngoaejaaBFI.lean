/- BoardFlows: the program's side. -/
import Derived.Test.YtfnihicngoaejaaBF
import Derived.Test.YtfnihicngoaejaaMR
namespace Go.Proofs.Ytfnihicngoaejaa
set_option linter.unusedSimpArgs false
set_option linter.unusedVariables false
open Go.RowKit Go.ChangeShapes Go.WideShapes Go.ChangeAt Go.Deep
abbrev pIIr := pS (some 3) pI
theorem ct_eqIntSS {e1 e2 : Option TypeId} (xs : List (List Int)) : CT Try.prog 43 [.inr (uS e1 pIIr xs), .inr (uS e2 pIIr xs)] (.inl (.bool true)) := by
  refine CT_len fun hlen => ?_
  refine CT_of Try.func43 rfl rfl rfl (fun w => ?_)
  have hC := upC_ext w
  try any_goals ((refine H_seq ?_; try refine H_reg ?_))
  try any_goals (refine W_assign (d := 4) (sq_stepper hC) rfl rfl rfl ?_)
  try any_goals ((refine Sq_nil ?_; try refine G_then ?_))
  try any_goals (refine H_seq ?_)
  try any_goals ((refine H_seq ?_; try refine H_reg ?_))
  try any_goals (refine W_move (d := 6) (sq_stepper hC) rfl rfl rfl ?_)
  try any_goals (refine W_len (d := 7) (sq_stepper hC) (by kernel_rfl) rfl rfl rfl ?_)
  try any_goals (refine W_move (d := 8) (sq_stepper hC) rfl rfl rfl ?_)
  try any_goals (refine W_len (d := 9) (sq_stepper hC) (by kernel_rfl) rfl rfl rfl ?_)
  try any_goals (refine W_cmp (d := 10) (sq_stepper hC) rfl rfl rfl rfl rfl ?_)
  try any_goals ((refine Sq_nil ?_; try refine G_then ?_))
  try any_goals ((refine H_cond _ rfl (fun hq => ?_) (fun hq => ?_) <;> (try simp only [hqs, reduceCtorEq, decide_true, Bool.not_true, beq_self_eq_true] at hq)))
  repeat (any_goals (first | refine G_ret_then ?_ | refine G_ret_block ?_))
  try any_goals (refine H_skip ?_)
  try any_goals (refine G_then ?_)
  try any_goals (refine H_seq ?_)
  try any_goals ((refine H_seq ?_; try refine H_reg ?_))
  try any_goals (refine W_assign (d := 5) (sq_stepper hC) rfl rfl rfl ?_)
  try any_goals ((refine Sq_nil ?_; try refine G_then ?_))
  try any_goals (refine H_block ?_)
  try any_goals ((refine H_loop (σ := Int) (fun i => 0 ≤ i ∧ i ≤ xs.length) (fun i => [(0, .inr (uS e1 pIIr xs)), (1, .inr (uS e2 pIIr xs)), (5, .inl (.int .i64 i))]) (fun _ => Ext w) (fun i => (xs.length - i).toNat) 0 ⟨by omega, by omega⟩ (fun a w' h => h.sub (by repeat (first | exact trivial | refine ⟨⟨_, rfl, fun _ _ _ h => h⟩, ?_⟩ | refine ⟨⟨_, rfl, fun v w _ h => (show v = _ from h).trans (congrArg (Value.int .i64) (by first | omega | (dsimp only; omega)))⟩, ?_⟩)) (fun _ h => h)) (fun i hi => ?_)))
  try any_goals (refine H_seq ?_)
  try any_goals ((refine H_seq ?_; try refine H_reg ?_))
  try any_goals (refine W_move (d := 11) (sq_stepper hC) rfl rfl rfl ?_)
  try any_goals (refine W_move (d := 12) (sq_stepper hC) rfl rfl rfl ?_)
  try any_goals (refine W_len (d := 13) (sq_stepper hC) (by kernel_rfl) rfl rfl rfl ?_)
  try any_goals (refine W_cmp (d := 14) (sq_stepper hC) rfl rfl rfl rfl rfl ?_)
  try any_goals ((refine Sq_nil ?_; try refine G_then ?_))
  try any_goals ((refine H_cond _ rfl (fun hq => ?_) (fun hq => ?_) <;> (try simp only [hqs, reduceCtorEq, decide_true, Bool.not_true, beq_self_eq_true] at hq)))
  try any_goals (refine H_skip ?_)
  try any_goals (refine H_exit ?_)
  repeat (any_goals (first | refine G_exit_then ?_ | refine G_exit_here ?_ | refine G_exit_far rfl ?_))
  try any_goals (refine G_then ?_)
  try any_goals (refine H_seq ?_)
  try any_goals (refine H_block ?_)
  try any_goals (refine H_seq ?_)
  try any_goals (refine H_draw' (by kernel_rfl) hC ?_)
  try any_goals (refine W_move (d := 17) wk_stepper rfl rfl rfl ?_)
  try any_goals (refine W_move (d := 18) wk_stepper rfl rfl rfl ?_)
  try any_goals (refine W_index (d := 19) wk_stepper (by kernel_rfl) rfl rfl rfl rfl (by first | omega | (dsimp only; omega)) ?_)
  try any_goals (refine W_loadS (d := 20) wk_stepper (by kernel_rfl) rfl rfl rfl ?_)
  try any_goals (refine W_move (d := 21) wk_stepper rfl rfl rfl ?_)
  try any_goals (refine W_move (d := 22) wk_stepper rfl rfl rfl ?_)
  try any_goals (refine W_index (d := 23) wk_stepper (by kernel_rfl) rfl rfl rfl rfl (by first | omega | (dsimp only; omega)) ?_)
  try any_goals (refine W_loadS (d := 24) wk_stepper (by kernel_rfl) rfl rfl rfl ?_)
  try any_goals (refine W_ct (d := 25) wk_stepper (ct_eqIntS _) rfl rfl rfl (by kernel_rfl) ?_)
  try any_goals (refine W_not (d := 26) wk_stepper rfl rfl rfl ?_)
  try any_goals (refine Wk_end (by kernel_rfl) (by kernel_rfl) ?_)
  try any_goals (refine G_then ?_)
  try any_goals (refine H_condF rfl ?_)
  try any_goals (refine H_reg ?_)
  try any_goals (refine W_assign (d := 4) (sq_stepper hC) rfl rfl rfl ?_)
  try any_goals ((refine Sq_nil ?_; try refine G_then ?_))
  try any_goals (refine H_ret ?_)
  repeat (any_goals (first | refine G_ret_then ?_ | refine G_ret_block ?_))
  try any_goals (refine H_skip ?_)
  repeat (any_goals (first | refine G_exit_then ?_ | refine G_exit_here ?_ | refine G_exit_far rfl ?_ | refine G_normal_block ?_))
  try any_goals (refine G_then ?_)
  try any_goals (refine H_reg ?_)
  try any_goals (refine W_move (d := 15) (sq_stepper hC) rfl rfl rfl ?_)
  try any_goals (refine W_ar (d := 16) (sq_stepper hC) rfl rfl rfl rfl rfl (by first | omega | (dsimp only; omega)) ?_)
  try any_goals (refine W_assign (d := 5) (sq_stepper hC) rfl rfl rfl ?_)
  try any_goals (refine Sq_nil ?_)
  try any_goals (refine G_again (i + 1) ⟨by omega, by omega⟩ (by omega) (by repeat (first | exact trivial | refine ⟨⟨_, rfl, fun _ _ _ h => h⟩, ?_⟩ | refine ⟨⟨_, rfl, fun v w _ h => (show v = _ from h).trans (congrArg (Value.int .i64) (by first | omega | (dsimp only; omega)))⟩, ?_⟩)) (fun _ h => h))
  repeat (any_goals (first | refine G_exit_then ?_ | refine G_exit_here ?_ | refine G_exit_far rfl ?_ | refine G_normal_block ?_))
  repeat (any_goals (first | refine G_ret_then ?_ | refine G_ret_block ?_))
  all_goals exact R1v rfl (fun _ h => h) rfl rfl
def pOwR (s : Nat) : Phi (List (List Int)) := ⟨1, fun xs cs w => ∃ v, cs = [v] ∧ (uO s oR xs).R v w, fun _ _ _ _ he ⟨v, h, hs⟩ => ⟨v, h, (uO s oR _).up _ _ _ he hs⟩, (fun _ _ _ ⟨v, h, _⟩ => by rw [h]; rfl),
  (fun _ _ _ ⟨v, h, hs⟩ u hu => by
    rw [h] at hu
    simp at hu
    subst hu
    obtain ⟨S, _, vs, S0, Sr, hr, _⟩ := hs
    obtain ⟨A, n, c, cs, ⟨p, rfl, _⟩, _⟩ := hr.o
    rfl), fun _ => False, fun _ h => h.elim⟩
def pIbF (s : Nat) : Phi IbR := pCat IbR.B (pS (some 103) pBg) (pCat IbR.L (pOwR s) (pCat IbR.W (pS (some 3) pI) pNil))
section
variable {P : Program} {ops : Array Oper} {C : World → Prop} {N : Nat} {M : List (Nat × Pr) → List Oper → Prop} {K : List (Nat × Pr)} {rest : List Oper} {d : Nat} {ty : TypeId} {pos : String} {af : Array Edge} {g : Option (Nat × Bool)}
theorem W_fieldVR (hM : Stepper P ops C N M) {α : Type} {Φ : Phi α} {s : Nat} {z : α} {q : α → List (List Int)} {x : Operand} {t : TypeId} {i off : Nat} (hp : Proj Φ off (pOwR s) q) (hB : fieldV P t i off = true) (hg : wantedK ops K g = some true) (hN : Nat.blt d N = true) (hx : kn K x = some (.inr (uA Φ z)))
    (h : M ((d, .inr (uO s oR (q z))) :: K) rest) : M K (⟨some d, .field t x i, ty, pos, af, g⟩ :: rest) :=
  W_det hM _ hN hg (fun ρ w _ hk => by
    obtain ⟨cs, hv, hφ⟩ := hk x (by simp [Op.operands]) _ hx
    obtain ⟨c, hc, v, rfl, hs⟩ := hp _ _ _ hφ
    exact ⟨v, run_fieldV hB hv (by have := hc 0 v rfl; simpa using this), hs⟩) h
end
theorem bfR_row {t : Tab} {fs : List Flw} {cap : Int} : (bfR t fs cap).length ≤ 12 ∧ ∀ i : Nat, i < (bfR t fs cap).length → ((ix (bfR t fs cap) i).length : Int) ≤ 5 := by
  cases h : bdA t fs cap
  · rw [bfR_n h]
    exact ⟨by simp, fun i hi => by simp at hi⟩
  · rw [bfR_y h]
    obtain ⟨hv, hf, hc⟩ := bdA_t h
    have h12 := (tabB_k hv).2.1
    have hok := bdO_ok hv hf hc.1 (Nat.le_refl fs.length)
    have hl := hok.l
    refine ⟨by omega, fun i hi => ?_⟩
    have h1 := hok.r i (by omega)
    have h2 := (tabB_lin hv (i := (i : Int)) (by omega) (by omega)).s
    omega
theorem cg_iBoardR {e : Option TypeId} (t : Tab) (fs : List Flw) (cap : Int) (h : bdA t fs cap = true) : CTG Try.prog 66 [.inr (uA bTab t), .inr (uS e pFlw fs), .inl (.int .i64 cap)] (fun s => .inr (uA (pIbF s) (ibR t fs cap))) := by
  obtain ⟨hv, hf, hc⟩ := bdA_t h
  have hl := (bdO_ok hv hf hc.1 (Nat.le_refl _)).l
  refine CTX_ctg (fun w => cx_iBoard t fs cap hv hf hc w) (fun w s y v w' hs ⟨hS, hvl⟩ hR => ⟨hS.ext, ?_⟩)
  obtain rfl : v = _ := hR
  have hL : (uO s oR (bdO t fs cap fs.length).1.L).R y.vL w' := hS.oR (m := 2) (n := 5) (vs := y.vs) hs rfl (by omega) (by omega) (fun i hi => by rw [Nat.add_comm]; exact rowsZ_get (by omega) hi)
  exact ⟨[y.vB, y.vL, y.vW], rfl, [y.vB], _, rfl, ⟨_, rfl, hS.isS (m := 1) rfl⟩, [y.vL], _, rfl, ⟨_, rfl, hL⟩, [y.vW], _, rfl, ⟨_, rfl, hS.isS (m := 4) rfl⟩, rfl⟩
theorem cg_iBF {e : Option TypeId} (t : Tab) (fs : List Flw) (cap : Int) : CTG Try.prog 42 [.inr (uA bTab t), .inr (uS e pFlw fs), .inl (.int .i64 cap)] (fun s => .inr (uT [.inr (uO s oR (bfR t fs cap)), .inl (.bool (bdA t fs cap))])) := by
  refine CTG_of Try.func42 rfl rfl rfl (fun w s hs => ?_)
  have hC := upC_ext w
  have hA := ct_areBoarding (e := e) t fs cap
  cases h : bdA t fs cap
  · rw [h] at hA
    try any_goals ((refine H_seq ?_; try refine H_reg ?_))
    try any_goals (refine W_boxA (d := 3) (sq_stepper hC) rfl rfl rfl ?_)
    try any_goals (refine W_assign (d := 6) (sq_stepper hC) rfl rfl rfl ?_)
    try any_goals (refine W_assign (d := 7) (sq_stepper hC) rfl rfl rfl ?_)
    try any_goals ((refine Sq_nil ?_; try refine G_then ?_))
    try any_goals (refine H_seq ?_)
    try any_goals ((refine H_seq ?_; try refine H_reg ?_))
    try any_goals (refine W_loadA (d := 8) (sq_stepper hC) (by kernel_rfl) rfl rfl rfl ?_)
    try any_goals (refine W_move (d := 9) (sq_stepper hC) rfl rfl rfl ?_)
    try any_goals (refine W_move (d := 10) (sq_stepper hC) rfl rfl rfl ?_)
    try any_goals (refine W_ct (d := 11) (sq_stepper hC) (hA) rfl rfl rfl (by kernel_rfl) ?_)
    try any_goals (refine W_not (d := 12) (sq_stepper hC) rfl rfl rfl ?_)
    try any_goals ((refine Sq_nil ?_; try refine G_then ?_))
    try any_goals (refine H_condT rfl ?_)
    try any_goals ((refine H_seq ?_; try refine H_reg ?_))
    try any_goals (refine W_assign (d := 6) (sq_stepper hC) rfl rfl rfl ?_)
    try any_goals (refine W_assign (d := 7) (sq_stepper hC) rfl rfl rfl ?_)
    try any_goals ((refine Sq_nil ?_; try refine G_then ?_))
    try any_goals (refine H_ret ?_)
    repeat (any_goals (first | refine G_ret_then ?_ | refine G_ret_block ?_))
    repeat (any_goals (first | refine G_ret_then ?_ | refine G_ret_block ?_))
    all_goals exact R2 rfl (fun _ h => h) rfl rfl (fun v w' _ hv => by rw [bfR_n h, show v = _ from hv]; exact nil_oR) (fun v w' _ hv => hv)
  · rw [h] at hA
    try any_goals ((refine H_seq ?_; try refine H_reg ?_))
    try any_goals (refine W_boxA (d := 3) (sq_stepper hC) rfl rfl rfl ?_)
    try any_goals (refine W_assign (d := 6) (sq_stepper hC) rfl rfl rfl ?_)
    try any_goals (refine W_assign (d := 7) (sq_stepper hC) rfl rfl rfl ?_)
    try any_goals ((refine Sq_nil ?_; try refine G_then ?_))
    try any_goals (refine H_seq ?_)
    try any_goals ((refine H_seq ?_; try refine H_reg ?_))
    try any_goals (refine W_loadA (d := 8) (sq_stepper hC) (by kernel_rfl) rfl rfl rfl ?_)
    try any_goals (refine W_move (d := 9) (sq_stepper hC) rfl rfl rfl ?_)
    try any_goals (refine W_move (d := 10) (sq_stepper hC) rfl rfl rfl ?_)
    try any_goals (refine W_ct (d := 11) (sq_stepper hC) (hA) rfl rfl rfl (by kernel_rfl) ?_)
    try any_goals (refine W_not (d := 12) (sq_stepper hC) rfl rfl rfl ?_)
    try any_goals ((refine Sq_nil ?_; try refine G_then ?_))
    try any_goals (refine H_condF rfl ?_)
    repeat (any_goals (first | refine G_ret_then ?_ | refine G_ret_block ?_))
    try any_goals (refine H_skip ?_)
    try any_goals (refine G_then ?_)
    try any_goals ((refine H_seq ?_; try refine H_reg ?_))
    try any_goals (refine W_loadA (d := 13) (sq_stepper hC) (by kernel_rfl) rfl rfl rfl ?_)
    try any_goals (refine W_move (d := 14) (sq_stepper hC) rfl rfl rfl ?_)
    try any_goals (refine W_move (d := 15) (sq_stepper hC) rfl rfl rfl ?_)
    try any_goals (refine W_ctG (d := 16) (sq_stepper hC) (s := s) (cg_iBoardR _ _ _ h) (fun w' h => Nat.le_trans hs h.size) rfl rfl rfl (by kernel_rfl) ?_)
    try any_goals (refine W_fieldVR (d := 17) (sq_stepper hC) (Proj.tail _ _ (Proj.head _ _ _)) (by kernel_rfl) rfl rfl rfl ?_)
    try any_goals (refine W_assign (d := 6) (sq_stepper hC) rfl rfl rfl ?_)
    try any_goals (refine W_assign (d := 7) (sq_stepper hC) rfl rfl rfl ?_)
    try any_goals ((refine Sq_nil ?_; try refine G_then ?_))
    try any_goals (refine H_ret ?_)
    repeat (any_goals (first | refine G_ret_then ?_ | refine G_ret_block ?_))
    all_goals first
      | exact R2 rfl (fun _ h => h) rfl rfl (fun v w' _ hv => by rw [bfR_y h]; exact hv) (fun v w' _ hv => hv)
      | trace_state
theorem cg_iBFt {e : Option TypeId} (t : Tab) (fs : List Flw) (cap : Int) : CT Try.prog 42 [.inr (uA bTab t), .inr (uS e pFlw fs), .inl (.int .i64 cap)] (.inr (uT [.inr (uS (some 51) (pS (some 3) pI) (bfR t fs cap)), .inl (.bool (bdA t fs cap))])) :=
  (cg_iBF t fs cap).ct fun s v w ⟨vs, hv, hk⟩ => by
    match vs, hk with
    | [a, b], ⟨⟨S, _, h1⟩, h2, _⟩ => exact ⟨[a, b], hv, oR_isS h1, h2, trivial⟩
end Go.Proofs.Ytfnihicngoaejaa

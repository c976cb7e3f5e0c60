/- The trips that serve a flow, both ways. -/
import Derived.Test.YtfnihicngoaejaaSvc
import Derived.Test.YtfnihicngoaejaaIns
import Derived.Test.YtfnihicngoaejaaFlow
import Derived.Test.YtfnihicngoaejaaStop
namespace Go.Proofs.Ytfnihicngoaejaa
set_option linter.unusedSimpArgs false
set_option linter.unusedVariables false
open Go.RowKit Go.ChangeShapes Go.WideShapes Go.ChangeAt Go.Deep
def svP (t : Tab) (f : Flw) (i : Int) : Int := fndI (trLin t i).S f.F
def svQ (t : Tab) (f : Flw) (i : Int) : Int := fndI (trLin t i).S f.T
def svT (t : Tab) (i k : Int) : Int := (ix t.T i).S + preI (trLin t i).R k.toNat
def svOk (t : Tab) (f : Flw) (i : Int) : Bool := decide (0 ≤ fndI (trLin t i).S f.F ∧ fndI (trLin t i).S f.F < fndI (trLin t i).S f.T ∧ f.M ≤ (ix t.T i).S + preI (trLin t i).R (fndI (trLin t i).S f.F).toNat)
theorem svOk_y {t : Tab} {f : Flw} {i : Int} (h : 0 ≤ fndI (trLin t i).S f.F ∧ fndI (trLin t i).S f.F < fndI (trLin t i).S f.T ∧ f.M ≤ (ix t.T i).S + preI (trLin t i).R (fndI (trLin t i).S f.F).toNat) : svOk t f i = true := decide_eq_true h
theorem svOk_n {t : Tab} {f : Flw} {i : Int} (h : ¬ (0 ≤ fndI (trLin t i).S f.F ∧ fndI (trLin t i).S f.F < fndI (trLin t i).S f.T ∧ f.M ≤ (ix t.T i).S + preI (trLin t i).R (fndI (trLin t i).S f.F).toNat)) : svOk t f i = false := decide_eq_false h
theorem svOk_t {t : Tab} {f : Flw} {i : Int} (h : svOk t f i = true) : 0 ≤ svP t f i ∧ svP t f i < svQ t f i ∧ f.M ≤ svT t i (svP t f i) := of_decide_eq_true h
def svX (t : Tab) (f : Flw) (i : Int) : Sv := ⟨i, svP t f i, svQ t f i, svT t i (svQ t f i)⟩
def svL (t : Tab) (f : Flw) : Nat → List Sv
  | 0 => []
  | i + 1 => if svOk t f i then svL t f i ++ [svX t f i] else svL t f i
def svLt (a b : Sv) : Bool := decide (a.a < b.a)
def svS (t : Tab) (f : Flw) : List Sv := isortL svLt (svL t f t.T.length)
theorem svL_y {t : Tab} {f : Flw} {i : Nat} (h : svOk t f i = true) : svL t f (i + 1) = svL t f i ++ [svX t f i] := by rw [svL, if_pos h]
theorem svL_n {t : Tab} {f : Flw} {i : Nat} (h : svOk t f i = false) : svL t f (i + 1) = svL t f i := by rw [svL, if_neg (by rw [h]; decide)]
theorem svL_len {t : Tab} {f : Flw} : ∀ {i : Nat}, (svL t f i).length ≤ i
  | 0 => Nat.le_refl _
  | i + 1 => by
    have := svL_len (t := t) (f := f) (i := i)
    rw [svL]
    split
    · rw [List.length_append]; simp; omega
    · omega
theorem svL_mem {t : Tab} {f : Flw} {z : Sv} : ∀ {i : Nat}, z ∈ svL t f i → ∃ j : Nat, j < i ∧ svOk t f j = true ∧ z = svX t f j
  | 0, h => by cases h
  | i + 1, h => by
    have ih := svL_mem (t := t) (f := f) (z := z) (i := i)
    rw [svL] at h
    split at h
    · rename_i hk
      rcases List.mem_append.1 h with h | h
      · obtain ⟨j, h1, h2⟩ := ih h
        exact ⟨j, by omega, h2⟩
      · exact ⟨i, by omega, hk, by simpa using h⟩
    · obtain ⟨j, h1, h2⟩ := ih h
      exact ⟨j, by omega, h2⟩
theorem svS_len {t : Tab} {f : Flw} : (svS t f).length ≤ t.T.length := by rw [svS, isort_len]; exact svL_len
theorem svS_mem {t : Tab} {f : Flw} {z : Sv} (h : z ∈ svS t f) : ∃ j : Nat, j < t.T.length ∧ svOk t f j = true ∧ z = svX t f j := svL_mem (isort_mem h)
theorem svS_at {t : Tab} {f : Flw} {k : Int} (h0 : 0 ≤ k) (h1 : k < (svS t f).length) : ∃ j : Nat, j < t.T.length ∧ svOk t f j = true ∧ ix (svS t f) k = svX t f j := svS_mem (mem_ix h0 h1)
theorem fndI_bd {xs : List Int} {v : Int} : -1 ≤ fndI xs v ∧ fndI xs v < xs.length := firstI_bd
theorem ix_map {α β : Type} [Inhabited α] [Inhabited β] {g : α → β} (hd : g default = default) {xs : List α} {i : Int} : ix (xs.map g) i = g (ix xs i) := by
  unfold ix
  rw [List.getD_eq_getElem?_getD, List.getD_eq_getElem?_getD, List.getElem?_map]
  cases xs[i.toNat]? with
  | none => simp [hd]
  | some x => simp
theorem insAt_map {α β : Type} {g : α → β} {xs : List α} {k : Nat} {z : α} : insAt (xs.map g) k (g z) = (insAt xs k z).map g := by simp [insAt, List.map_take, List.map_drop]
theorem isort_snoc {α : Type} [Inhabited α] {lt : α → α → Bool} {xs : List α} {x : α} : isortL lt (xs ++ [x]) = insR lt (isortL lt xs) x := by
  rw [isortL, List.foldl_append]
  rfl
/-- The place that the reference finds. -/
def svC (t : Tab) (f : Flw) (i : Nat) (k : Nat) : Bool := svLt (svX t f i) (ix (isortL svLt (svL t f i)) (k : Int))
theorem svC_y {t : Tab} {f : Flw} {i k : Nat} (h : svT t i (svQ t f i) < ix ((isortL svLt (svL t f i)).map Sv.a) (k : Int)) : svC t f i k = true := by
  rw [ix_map (by rfl)] at h
  exact decide_eq_true h
theorem svC_n {t : Tab} {f : Flw} {i k : Nat} (h : ix ((isortL svLt (svL t f i)).map Sv.a) (k : Int) ≤ svT t i (svQ t f i)) : svC t f i k = false := by
  rw [ix_map (by rfl)] at h
  exact decide_eq_false (by show ¬ svT t i (svQ t f i) < _; omega)
theorem sv_put {t : Tab} {f : Flw} {i k : Nat} (hk : svOk t f i = true) (h : insPos (svC t f i) (isortL svLt (svL t f i)).length = k) : insAt (isortL svLt (svL t f i)) k (svX t f i) = isortL svLt (svL t f (i + 1)) := by
  rw [svL_y hk, isort_snoc, insR, ← h]
  rfl
theorem uF_own {α : Type} {e : TypeId} {Φ : Phi α} {hfl : Flat Φ} {s : Nat} {v : Value} {w : World} (h : (uF e Φ ([] : List α)).R v w) : (uO s (oF e Φ hfl) []).R v w := by
  obtain ⟨p, rfl, _⟩ := h
  exact ⟨fun _ => False, fun b hb => hb.elim, none, 0, 0, [], ⟨p, rfl, .inr ⟨rfl, rfl⟩⟩, rfl, Nat.le_refl _, Nat.zero_le _, by simp, rfl, (fun g hg => by cases hg), (fun _ => rfl), ls_nil⟩
section
variable {P : Program} {ops : Array Oper} {C : World → Prop} {N : Nat} {M : List (Nat × Pr) → List Oper → Prop} {K : List (Nat × Pr)} {rest : List Oper} {d : Nat} {op : Op} {ty : TypeId} {pos : String} {af : Array Edge} {g : Option (Nat × Bool)}
theorem W_moveU (hM : Stepper P ops C N M) {x : Operand} {U : UR} (U' : UR) (hU : ∀ v w, U.R v w → U'.R v w) (hg : wantedK ops K g = some true) (hN : Nat.blt d N = true) (hx : kn K x = some (.inr U)) (h : M ((d, .inr U') :: K) rest) : M K (⟨some d, .move x, ty, pos, af, g⟩ :: rest) :=
  W_det hM (.inr U') hN hg (fun ρ w _ hk => ⟨ρ x, by simp [execOp], hU _ _ (hk x (by simp [Op.operands]) _ hx)⟩) h
end
theorem ct_l20Places (t : Tab) (f : Flw) (i : Int) (hv : tabB t = true) (hi : 0 ≤ i ∧ i < t.T.length) : CT Try.prog 85 [.inr (uA bTab t), .inl (.int .i64 i), .inr (uA pFlw f)]
    (.inr (uT [.inl (.int .i64 (if svOk t f i then svP t f i else -1)), .inl (.int .i64 (if svOk t f i then svQ t f i else -1))])) := by
  have htr := tabB_at hv hi.1 hi.2
  have hz := tabB_lin hv hi.1 hi.2
  have hs := hz.s
  have hr := hz.r
  have hpb := fndI_bd (xs := (trLin t i).S) (v := f.F)
  have hqb := fndI_bd (xs := (trLin t i).S) (v := f.T)
  refine CT_of Try.func85 rfl rfl rfl (fun w => ?_)
  have hC := upC_ext w
  try any_goals (refine H_seq ?_; try refine H_reg ?_)
  try any_goals (refine W_boxA (d := 3) (sq_stepper hC) rfl rfl rfl ?_)
  try any_goals (refine W_boxA (d := 5) (sq_stepper hC) rfl rfl rfl ?_)
  try any_goals (refine W_assign (d := 6) (sq_stepper hC) rfl rfl rfl ?_)
  try any_goals (refine W_assign (d := 7) (sq_stepper hC) rfl rfl rfl ?_)
  try any_goals (refine Sq_nil ?_; try refine G_then ?_)
  try any_goals (refine H_seq ?_)
  try any_goals (refine H_draw' (by kernel_rfl) hC ?_)
  try any_goals (refine W_loadA (d := 10) wk_stepper (by kernel_rfl) rfl rfl rfl ?_)
  try any_goals (refine W_move (d := 11) wk_stepper rfl rfl rfl ?_)
  try any_goals (refine W_ct (d := 12) wk_stepper (ct_l5Line _ _ hi (by omega)) rfl rfl rfl (by kernel_rfl) ?_)
  try any_goals (refine W_fieldG (d := 13) wk_stepper (Proj.head _ _ _) (by kernel_rfl) rfl rfl rfl ?_)
  try any_goals (refine W_loadI (d := 14) wk_stepper (by kernel_rfl) rfl rfl rfl ?_)
  try any_goals (refine W_ct (d := 15) wk_stepper (ct_l2Place _ _) rfl rfl rfl (by kernel_rfl) ?_)
  try any_goals (refine W_loadA (d := 16) wk_stepper (by kernel_rfl) rfl rfl rfl ?_)
  try any_goals (refine W_move (d := 17) wk_stepper rfl rfl rfl ?_)
  try any_goals (refine W_ct (d := 18) wk_stepper (ct_l5Line _ _ hi (by omega)) rfl rfl rfl (by kernel_rfl) ?_)
  try any_goals (refine W_fieldG (d := 19) wk_stepper (Proj.tail _ _ (Proj.head _ _ _)) (by kernel_rfl) rfl rfl rfl ?_)
  try any_goals (refine W_loadI (d := 20) wk_stepper (by kernel_rfl) rfl rfl rfl ?_)
  try any_goals (refine W_ct (d := 21) wk_stepper (ct_l2Place _ _) rfl rfl rfl (by kernel_rfl) ?_)
  try any_goals (refine Wk_assign (by kernel_rfl) (by kernel_rfl) ?_)
  try any_goals (refine W_assign (d := 8) (sq_stepper hC) rfl rfl rfl ?_)
  try any_goals (refine W_assign (d := 9) (sq_stepper hC) rfl rfl rfl ?_)
  try any_goals (refine Sq_nil ?_; try refine G_then ?_)
  try any_goals (refine H_seq ?_)
  try any_goals (refine H_seq ?_)
  try any_goals (refine H_draw' (by kernel_rfl) hC ?_)
  try any_goals (refine W_move (d := 22) wk_stepper rfl rfl rfl ?_)
  try any_goals (refine W_cmp (d := 23) wk_stepper rfl rfl rfl rfl rfl ?_)
  try any_goals (refine W_move (d := 24) wk_stepper rfl rfl rfl ?_)
  try any_goals ((refine W_splitG wk_stepper _ rfl _ rfl (fun hq => ?_) (fun hq => ?_) <;> ((try simp only [hqs, reduceCtorEq] at hq); try (have hq' := hq; clear hq))))
  try any_goals (first | refine W_skip (d := 25) wk_stepper rfl rfl ?_ | refine W_move (d := 25) wk_stepper rfl rfl rfl ?_)
  try any_goals (first | refine W_skip (d := 26) wk_stepper rfl rfl ?_ | refine W_move (d := 26) wk_stepper rfl rfl rfl ?_)
  try any_goals (first | refine W_skip (d := 27) wk_stepper rfl rfl ?_ | refine W_cmp (d := 27) wk_stepper rfl rfl rfl rfl rfl ?_)
  try any_goals (first | refine W_pickT (d := 28) wk_stepper rfl rfl rfl rfl ?_ | refine W_pickF (d := 28) wk_stepper rfl rfl rfl rfl ?_)
  try any_goals (refine W_move (d := 29) wk_stepper rfl rfl rfl ?_)
  try any_goals ((refine W_splitG wk_stepper _ rfl _ rfl (fun hq => ?_) (fun hq => ?_) <;> ((try simp only [hqs, reduceCtorEq] at hq); try (have hq' := hq; clear hq))))
  try any_goals (first | refine W_skip (d := 30) wk_stepper rfl rfl ?_ | refine W_loadA (d := 30) wk_stepper (by kernel_rfl) rfl rfl rfl ?_)
  try any_goals (first | refine W_skip (d := 31) wk_stepper rfl rfl ?_ | refine W_move (d := 31) wk_stepper rfl rfl rfl ?_)
  try any_goals (first | refine W_skip (d := 32) wk_stepper rfl rfl ?_ | refine W_move (d := 32) wk_stepper rfl rfl rfl ?_)
  try any_goals (first | refine W_skip (d := 33) wk_stepper rfl rfl ?_ | refine W_ct (d := 33) wk_stepper (ct_l5At _ _ _ hi (by omega) hz (by omega) (by omega)) rfl rfl rfl (by kernel_rfl) ?_)
  try any_goals (first | refine W_skip (d := 34) wk_stepper rfl rfl ?_ | refine W_fieldG (d := 34) wk_stepper (Proj.tail _ _ (Proj.tail _ _ (Proj.head _ _ _))) (by kernel_rfl) rfl rfl rfl ?_)
  try any_goals (first | refine W_skip (d := 35) wk_stepper rfl rfl ?_ | refine W_loadI (d := 35) wk_stepper (by kernel_rfl) rfl rfl rfl ?_)
  try any_goals (first | refine W_skip (d := 36) wk_stepper rfl rfl ?_ | refine W_cmp (d := 36) wk_stepper rfl rfl rfl rfl rfl ?_)
  try any_goals (first | refine W_pickT (d := 37) wk_stepper rfl rfl rfl rfl ?_ | refine W_pickF (d := 37) wk_stepper rfl rfl rfl rfl ?_)
  try any_goals (refine Wk_end (by kernel_rfl) (by kernel_rfl) ?_)
  try any_goals (refine G_then ?_)
  try any_goals (first | refine H_condT rfl ?_ | (refine H_cond _ rfl (fun hq => ?_) (fun hq => ?_) <;> (try simp only [hqs, reduceCtorEq] at hq)))
  try any_goals (refine H_seq ?_; try refine H_reg ?_)
  try any_goals (refine W_assign (d := 6) (sq_stepper hC) rfl rfl rfl ?_)
  try any_goals (refine W_assign (d := 7) (sq_stepper hC) rfl rfl rfl ?_)
  try any_goals (refine Sq_nil ?_; try refine G_then ?_)
  try any_goals (refine H_ret ?_)
  repeat (any_goals (first | refine G_ret_then ?_ | refine G_ret_block ?_))
  try any_goals (refine H_skip ?_)
  try any_goals (refine G_then ?_)
  try any_goals (refine H_seq ?_; try refine H_reg ?_)
  try any_goals (refine W_move (d := 38) (sq_stepper hC) rfl rfl rfl ?_)
  try any_goals (refine W_move (d := 39) (sq_stepper hC) rfl rfl rfl ?_)
  try any_goals (refine W_assign (d := 6) (sq_stepper hC) rfl rfl rfl ?_)
  try any_goals (refine W_assign (d := 7) (sq_stepper hC) rfl rfl rfl ?_)
  try any_goals (refine Sq_nil ?_; try refine G_then ?_)
  try any_goals (refine H_ret ?_)
  repeat (any_goals (first | refine G_ret_then ?_ | refine G_ret_block ?_))
  all_goals first
    | (have hn : svOk t f i = true := svOk_y (by omega)
       exact R2v rfl (fun _ h => h) rfl rfl (by rw [hn]; rfl) (by rw [hn]; rfl))
    | (have hn : svOk t f i = false := svOk_n (by omega)
       exact R2v rfl (fun _ h => h) rfl rfl (by rw [hn]; rfl) (by rw [hn]; rfl))
    | trace_state
theorem ct_l20PlacesY (t : Tab) (f : Flw) (i : Int) (hv : tabB t = true) (hi : 0 ≤ i ∧ i < t.T.length) (h : svOk t f i = true) : CT Try.prog 85 [.inr (uA bTab t), .inl (.int .i64 i), .inr (uA pFlw f)] (.inr (uT [.inl (.int .i64 (svP t f i)), .inl (.int .i64 (svQ t f i))])) := by
  have := ct_l20Places t f i hv hi
  rwa [h] at this
theorem ct_l20PlacesN (t : Tab) (f : Flw) (i : Int) (hv : tabB t = true) (hi : 0 ≤ i ∧ i < t.T.length) (h : svOk t f i = false) : CT Try.prog 85 [.inr (uA bTab t), .inl (.int .i64 i), .inr (uA pFlw f)] (.inr (uT [.inl (.int .i64 (-1)), .inl (.int .i64 (-1))])) := by
  have := ct_l20Places t f i hv hi
  rwa [h] at this
theorem ct_svAt (t : Tab) (i k : Int) (hv : tabB t = true) (hi : 0 ≤ i ∧ i < t.T.length) (hk : 0 ≤ k ∧ k < (trLin t i).S.length) : CT Try.prog 86 [.inr (uA bTab t), .inl (.int .i64 i), .inl (.int .i64 k)] (.inl (.int .i64 (svT t i k))) := by
  have htr := tabB_at hv hi.1 hi.2
  have hz := tabB_lin hv hi.1 hi.2
  have hr := hz.r
  exact ct_l5At _ _ _ hi (by omega) hz (by omega) (by omega)
theorem cg_l20Serving (t : Tab) (f : Flw) (hv : tabB t = true) : CTG Try.prog 60 [.inr (uA bTab t), .inr (uA pFlw f)] (fun s => .inr (uO s oIntS ((svS t f).map Sv.t))) := by
  have h12 := (tabB_k hv).2.1
  have hmt : ∀ i, ((isortL svLt (svL t f i)).map Sv.t).length = (isortL svLt (svL t f i)).length := fun i => List.length_map _
  have hma : ∀ i, ((isortL svLt (svL t f i)).map Sv.a).length = (isortL svLt (svL t f i)).length := fun i => List.length_map _
  have hln : ∀ i, (isortL svLt (svL t f i)).length ≤ i := fun i => by rw [isort_len]; exact svL_len
  refine CTG_of Try.func60 rfl rfl rfl (fun w s hs => ?_)
  have hC := upC_ext w
  try any_goals (refine H_seq ?_; try refine H_reg ?_)
  try any_goals (refine W_boxA (d := 2) (sq_stepper hC) rfl rfl rfl ?_)
  try any_goals (refine W_boxA (d := 3) (sq_stepper hC) rfl rfl rfl ?_)
  try any_goals (refine W_assign (d := 4) (sq_stepper hC) rfl rfl rfl ?_)
  try any_goals (refine Sq_nil ?_; try refine G_then ?_)
  try any_goals (refine H_seq ?_; try refine H_reg ?_)
  try any_goals ((refine W_buildF (d := 12) (sq_stepper hC) [] pI [] (e := 3) (by kernel_rfl) (by kernel_rfl) rfl rfl (by kernel_rfl) rfl rfl rfl trivial ?_))
  try any_goals (refine W_assign (d := 5) (sq_stepper hC) rfl rfl rfl ?_)
  try any_goals (refine Sq_nil ?_; try refine G_then ?_)
  try any_goals (refine H_seq ?_; try refine H_reg ?_)
  try any_goals ((refine W_buildS (d := 13) (sq_stepper hC) [] pI [] (e := 3) (by kernel_rfl) (by kernel_rfl) rfl rfl (by kernel_rfl) rfl rfl rfl trivial ?_))
  try any_goals (refine W_assign (d := 6) (sq_stepper hC) rfl rfl rfl ?_)
  try any_goals (refine Sq_nil ?_; try refine G_then ?_)
  try any_goals (refine H_seq ?_)
  try any_goals (refine H_seq ?_; try refine H_reg ?_)
  try any_goals (refine W_assign (d := 7) (sq_stepper hC) rfl rfl rfl ?_)
  try any_goals (refine Sq_nil ?_; try refine G_then ?_)
  try any_goals (refine H_block ?_)
  try any_goals ((refine H_loop (σ := Nat) (fun i => i ≤ t.T.length) (fun i => [(2, .inr (uP bTab t)), (3, .inr (uP pFlw f)), (5, .inr (uO s oIntS ((isortL svLt (svL t f i)).map Sv.t))), (6, .inr (uS (some 3) pI ((isortL svLt (svL t f i)).map Sv.a))), (7, .inl (.int .i64 i))]) (fun _ => Ext w) (fun i => t.T.length - i) 0 (Nat.zero_le _) (fun a w' h => h.sub (by repeat (first | exact trivial | refine ⟨⟨_, rfl, fun _ _ _ h => h⟩, ?_⟩ | refine ⟨⟨_, rfl, fun v w _ h => uF_own h⟩, ?_⟩)) (fun _ h => h)) (fun i hi => ?_); have hli := hln i; have h1i := hmt i; have h2i := hma i; cases hok : svOk t f i))
  try any_goals (refine H_seq ?_)
  try any_goals (refine H_seq ?_; try refine H_reg ?_)
  try any_goals (refine W_move (d := 14) (sq_stepper hC) rfl rfl rfl ?_)
  try any_goals (refine W_fieldG (d := 15) (sq_stepper hC) (Proj.tail _ _ (Proj.head _ _ _)) (by kernel_rfl) rfl rfl rfl ?_)
  try any_goals (refine W_loadS (d := 16) (sq_stepper hC) (by kernel_rfl) rfl rfl rfl ?_)
  try any_goals (refine W_len (d := 17) (sq_stepper hC) (by kernel_rfl) rfl rfl rfl ?_)
  try any_goals (refine W_cmp (d := 18) (sq_stepper hC) rfl rfl rfl rfl rfl ?_)
  try any_goals (refine Sq_nil ?_; try refine G_then ?_)
  try any_goals ((refine H_cond _ rfl (fun hq => ?_) (fun hq => Wt.un 0 ?_) <;> (try simp only [hqs, reduceCtorEq] at hq)))
  try any_goals (skip)
  try any_goals (skip)
  try any_goals (refine H_skip ?_)
  try any_goals (refine G_hold 1 ?_)
  try any_goals (refine Wt.out 0 ?_)
  try any_goals (refine H_exit ?_)
  repeat (any_goals (first | refine G_exit_then ?_ | refine G_exit_here ?_ | refine G_exit_far rfl ?_))
  try any_goals (refine Wt.out 1 ?_)
  try any_goals (refine G_then ?_)
  try any_goals (refine H_seq ?_)
  try any_goals (refine H_block ?_)
  try any_goals (refine H_seq ?_; try refine H_reg ?_)
  try any_goals (refine W_loadA (d := 22) (sq_stepper hC) (by kernel_rfl) rfl rfl rfl ?_)
  try any_goals (refine W_move (d := 23) (sq_stepper hC) rfl rfl rfl ?_)
  try any_goals (refine W_loadA (d := 24) (sq_stepper hC) (by kernel_rfl) rfl rfl rfl ?_)
  try any_goals (first | refine W_ct (d := 25) (sq_stepper hC) (ct_l20PlacesY _ _ _ hv (by omega) hok) rfl rfl rfl (by kernel_rfl) ?_ | refine W_ct (d := 25) (sq_stepper hC) (ct_l20PlacesN _ _ _ hv (by omega) hok) rfl rfl rfl (by kernel_rfl) ?_)
  try any_goals (refine W_move (d := 21) (sq_stepper hC) rfl rfl rfl ?_)
  try any_goals (refine W_extract (d := 26) (sq_stepper hC) rfl rfl rfl rfl ?_)
  try any_goals (refine W_extract (d := 27) (sq_stepper hC) rfl rfl rfl rfl ?_)
  try any_goals (refine W_assign (d := 8) (sq_stepper hC) rfl rfl rfl ?_)
  try any_goals (refine W_assign (d := 9) (sq_stepper hC) rfl rfl rfl ?_)
  try any_goals (refine Sq_nil ?_; try refine G_then ?_)
  try any_goals (refine H_seq ?_)
  try any_goals (refine H_seq ?_; try refine H_reg ?_)
  try any_goals (refine W_move (d := 28) (sq_stepper hC) rfl rfl rfl ?_)
  try any_goals (refine W_cmp (d := 29) (sq_stepper hC) rfl rfl rfl rfl rfl ?_)
  try any_goals (refine Sq_nil ?_; try refine G_then ?_)
  try any_goals (first | refine H_condT rfl ?_ | (refine H_cond _ rfl (fun hq => ?_) (fun hq => Wt.un 2 ?_) <;> (try simp only [hqs, reduceCtorEq] at hq)))
  try any_goals (skip)
  try any_goals (first | ((exfalso; have := svOk_t hok; omega)) | skip)
  try any_goals (refine H_exit ?_)
  repeat (any_goals (first | refine G_exit_then ?_ | refine G_exit_here ?_ | refine G_exit_far rfl ?_))
  try any_goals (refine G_hold 3 ?_)
  try any_goals (refine Wt.out 2 ?_)
  try any_goals (refine H_skip ?_)
  try any_goals (refine Wt.out 3 ?_)
  try any_goals (refine G_then ?_)
  try any_goals (refine H_seq ?_; try refine H_reg ?_)
  try any_goals (refine W_loadA (d := 30) (sq_stepper hC) (by kernel_rfl) rfl rfl rfl ?_)
  try any_goals (refine W_move (d := 31) (sq_stepper hC) rfl rfl rfl ?_)
  try any_goals (refine W_move (d := 32) (sq_stepper hC) rfl rfl rfl ?_)
  try any_goals (refine W_ct (d := 33) (sq_stepper hC) (ct_svAt _ _ _ hv (by omega) (by have := svOk_t hok; have := fndI_bd (xs := (trLin t i).S) (v := f.T); exact ⟨by omega, this.2⟩)) rfl rfl rfl (by kernel_rfl) ?_)
  try any_goals (refine W_assign (d := 10) (sq_stepper hC) rfl rfl rfl ?_)
  try any_goals (refine Sq_nil ?_; try refine G_then ?_)
  try any_goals (refine H_seq ?_; try refine H_reg ?_)
  try any_goals (refine W_moveU (d := 34) (sq_stepper hC) (U := uO s oIntS ((isortL svLt (svL t f i)).map Sv.t)) (uS (some 3) pI ((isortL svLt (svL t f i)).map Sv.t)) (fun v w ⟨_, _, h⟩ => OS.isS h) rfl rfl rfl ?_)
  try any_goals (refine W_len (d := 35) (sq_stepper hC) (by kernel_rfl) rfl rfl rfl ?_)
  try any_goals (refine W_assign (d := 11) (sq_stepper hC) rfl rfl rfl ?_)
  try any_goals (refine Sq_nil ?_; try refine G_then ?_)
  try any_goals (refine H_seq ?_)
  try any_goals (refine H_block ?_)
  try any_goals ((refine H_loop (σ := Nat) (fun m => m ≤ (isortL svLt (svL t f i)).length ∧ insPos (svC t f i) (isortL svLt (svL t f i)).length = insPos (svC t f i) m) (fun m => [(2, .inr (uP bTab t)), (3, .inr (uP pFlw f)), (5, .inr (uO s oIntS ((isortL svLt (svL t f i)).map Sv.t))), (6, .inr (uS (some 3) pI ((isortL svLt (svL t f i)).map Sv.a))), (7, .inl (.int .i64 i)), (10, .inl (.int .i64 (svT t i (svQ t f i)))), (11, .inl (.int .i64 m))]) (fun _ => Ext w) (fun m => m) (isortL svLt (svL t f i)).length ⟨Nat.le_refl _, rfl⟩ (fun a w' h => h.sub (by repeat (first | exact trivial | refine ⟨⟨_, rfl, fun _ _ _ h => h⟩, ?_⟩ | refine ⟨⟨_, rfl, fun v w _ h => (show v = _ from h).trans (congrArg (Value.int .i64) (by first | omega | (dsimp only; omega)))⟩, ?_⟩)) (fun _ h => h)) (fun m hm => ?_); obtain ⟨hm1, hm2⟩ := hm))
  try any_goals (refine H_seq ?_)
  try any_goals (refine H_seq ?_; try refine H_reg ?_)
  try any_goals (refine W_move (d := 36) (sq_stepper hC) rfl rfl rfl ?_)
  try any_goals (refine W_cmp (d := 37) (sq_stepper hC) rfl rfl rfl rfl rfl ?_)
  try any_goals (refine W_move (d := 38) (sq_stepper hC) rfl rfl rfl ?_)
  try any_goals ((refine W_splitG (sq_stepper hC) _ rfl _ rfl (fun hq => ?_) (fun hq => ?_) <;> ((try simp only [hqs, reduceCtorEq] at hq); try (have hq' := hq; clear hq))))
  try any_goals (first | refine W_skip (d := 39) (sq_stepper hC) rfl rfl ?_ | refine W_move (d := 39) (sq_stepper hC) rfl rfl rfl ?_)
  try any_goals (first | refine W_skip (d := 40) (sq_stepper hC) rfl rfl ?_ | refine W_move (d := 40) (sq_stepper hC) rfl rfl rfl ?_)
  try any_goals (first | refine W_skip (d := 41) (sq_stepper hC) rfl rfl ?_ | refine W_ar (d := 41) (sq_stepper hC) rfl rfl rfl rfl rfl (by first | omega | (dsimp only; omega)) ?_)
  try any_goals (first | refine W_skip (d := 42) (sq_stepper hC) rfl rfl ?_ | refine W_index (d := 42) (sq_stepper hC) (by kernel_rfl) rfl rfl rfl rfl (by first | omega | (dsimp only; omega)) ?_)
  try any_goals (first | refine W_skip (d := 43) (sq_stepper hC) rfl rfl ?_ | refine W_loadI (d := 43) (sq_stepper hC) (by kernel_rfl) rfl rfl rfl ?_)
  try any_goals (first | refine W_skip (d := 44) (sq_stepper hC) rfl rfl ?_ | refine W_move (d := 44) (sq_stepper hC) rfl rfl rfl ?_)
  try any_goals (first | refine W_skip (d := 45) (sq_stepper hC) rfl rfl ?_ | refine W_cmp (d := 45) (sq_stepper hC) rfl rfl rfl rfl rfl ?_)
  try any_goals (first | refine W_pickT (d := 46) (sq_stepper hC) rfl rfl rfl rfl ?_ | refine W_pickF (d := 46) (sq_stepper hC) rfl rfl rfl rfl ?_)
  try any_goals (refine Sq_nil ?_; try refine G_then ?_)
  try any_goals (first | refine H_condF rfl (Wt.un 4 ?_) | (refine H_cond _ rfl (fun hq => ?_) (fun hq => Wt.un 4 ?_) <;> (try simp only [hqs, reduceCtorEq] at hq)))
  try any_goals (skip)
  try any_goals (skip)
  try any_goals (refine H_skip ?_)
  try any_goals (refine G_hold 5 ?_)
  try any_goals (refine Wt.out 4 ?_)
  try any_goals (refine H_exit ?_)
  repeat (any_goals (first | refine G_exit_then ?_ | refine G_exit_here ?_ | refine G_exit_far rfl ?_))
  try any_goals (refine Wt.out 5 ?_)
  try any_goals (refine G_then ?_)
  try any_goals (refine H_block ?_)
  try any_goals (refine H_reg ?_)
  try any_goals (refine W_move (d := 47) (sq_stepper hC) rfl rfl rfl ?_)
  try any_goals (refine W_ar (d := 48) (sq_stepper hC) rfl rfl rfl rfl rfl (by first | omega | (dsimp only; omega)) ?_)
  try any_goals (refine W_assign (d := 11) (sq_stepper hC) rfl rfl rfl ?_)
  try any_goals (refine Sq_nil ?_)
  repeat (any_goals (first | refine G_exit_then ?_ | refine G_exit_here ?_ | refine G_exit_far rfl ?_ | refine G_normal_block ?_))
  try any_goals (refine G_again (m - 1) ⟨by omega, ?_⟩ (by omega) (by repeat (first | exact trivial | refine ⟨⟨_, rfl, fun _ _ _ h => h⟩, ?_⟩ | refine ⟨⟨_, rfl, fun v w _ h => (show v = _ from h).trans (congrArg (Value.int .i64) (by first | omega | (dsimp only; omega)))⟩, ?_⟩)) (fun _ h => h))
  repeat (any_goals (first | refine G_exit_then ?_ | refine G_exit_here ?_ | refine G_exit_far rfl ?_ | refine G_normal_block ?_))
  try any_goals (refine H_seq ?_)
  try any_goals (refine H_open 2 rfl (fun q12 u2 hw hr2 => ?_); have hE := hw)
  try any_goals (refine H_open 3 rfl (fun q12 u3 hw hr3 => ?_); have hE := hE.trans hw; have hr2 := UR.lift hw hr2)
  try any_goals (refine H_open 6 rfl (fun q12 u6 hw hr6 => ?_); have hE := hE.trans hw; have hr2 := UR.lift hw hr2; have hr3 := UR.lift hw hr3)
  try any_goals (refine H_open 5 rfl (fun q12 u5 hw hr5 => ?_); have hE := hE.trans hw; have hr2 := UR.lift hw hr2; have hr3 := UR.lift hw hr3; have hr6 := UR.lift hw hr6)
  try any_goals (have hr5 : (uS (some 3) pI ((isortL svLt (svL t f i)).map Sv.t)).R u5 q12 := by obtain ⟨S9, _, h9⟩ := hr5; exact OS.isS h9)
  try any_goals (have hC := upC_ext q12; obtain ⟨AO, nO, cO, eO, hnO, hcO, hmO, _⟩ := id hr5; subst eO)
  try any_goals (refine H_drawT [8, 9, 10] [0, 1, 2, 3, 4, 5, 6] [7, 11, 12] (by kernel_rfl) (by kernel_rfl) hC (fun _ _ _ _ _ h => h) ?_)
  try any_goals (refine L_move rfl rfl ?_)
  try any_goals (refine L_move rfl rfl ?_)
  try any_goals (refine L_sliceFromV (k := (Phi.k pI)) (by kernel_rfl) rfl rfl rfl (by first | omega | (dsimp only; omega)) ?_)
  try any_goals (refine L_nil ?_)
  try any_goals (refine W_buildF (d := 49) wkH_stepper [] pI [] (e := 3) (by kernel_rfl) (by kernel_rfl) rfl rfl (by kernel_rfl) rfl rfl rfl trivial ?_)
  try any_goals (refine W_moveR (d := 50) wkH_stepper (U := uS (some 3) pI ((isortL svLt (svL t f i)).map Sv.t)) (fun w' h => IsS.up h hr5) rfl rfl rfl ?_)
  try any_goals (refine W_move (d := 51) wkH_stepper rfl rfl rfl ?_)
  try any_goals (refine W_sliceTo (d := 52) wkH_stepper (by kernel_rfl) rfl rfl rfl rfl ⟨by omega, by omega⟩ ?_)
  try any_goals (refine W_appNewZ (d := 53) wkH_stepper (s := q12.heap.size) (e := 3) (hfl := flat_I) (fun w' h => h.size) (by kernel_rfl) (by kernel_rfl) rfl rfl rfl rfl (by simp only [List.length_append, List.length_take, List.length_drop, List.length_cons, List.length_nil]; omega) ?_)
  try any_goals (refine W_move (d := 54) wkH_stepper rfl rfl rfl ?_)
  try any_goals (refine W_buildS (d := 55) wkH_stepper [(Operand.tmp 54)] pI [_] (e := 3) (by kernel_rfl) (by kernel_rfl) rfl rfl (by kernel_rfl) rfl rfl rfl ⟨elem_I, trivial⟩ ?_)
  try any_goals (refine WkH_nil ?_)
  try any_goals (refine Sq_openO 53 rfl (fun v53 => ?_); refine Sq_appSZ (d := 56) 0 (Ψ := pI) (zs := [(i : Int)]) rfl (by repeat (first | exact trivial | refine ⟨?_, ?_⟩)) (by kernel_rfl) (by kernel_rfl) rfl rfl rfl (by simp only [List.length_append, List.length_take, List.length_drop, List.length_cons, List.length_nil]; omega) (fun v56 => ?_))
  try any_goals (refine Sq_recall 59 (U := uS (some 3) pI ((((isortL svLt (svL t f i)).map Sv.t)).drop ((m : Int)).toNat)) (fun w' h => IsS.up (Sep.ext h) (IsS.dropV hr5 (by omega))) rfl ?_; refine Sq_appSZ (d := 60) 0 (Ψ := pI) rfl (by repeat (first | exact trivial | refine ⟨?_, ?_⟩)) (by kernel_rfl) (by kernel_rfl) rfl rfl rfl (by simp only [List.length_append, List.length_take, List.length_drop, List.length_cons, List.length_nil]; omega) (fun v60 => ?_))
  try any_goals (refine W_assign (d := 5) (sq_stepper upC_sep) rfl rfl rfl ?_)
  try any_goals (refine Sq_nil ?_; try refine G_then ?_)
  try any_goals (refine H_sub (K' := [(2, .inr (uP bTab t)), (3, .inr (uP pFlw f)), (5, .inr (uO s oIntS (insAt ((isortL svLt (svL t f i)).map Sv.t) (m : Int).toNat (i : Int)))), (6, .inr (uS (some 3) pI ((isortL svLt (svL t f i)).map Sv.a))), (7, .inl (.int .i64 i)), (10, .inl (.int .i64 (svT t i (svQ t f i)))), (11, .inl (.int .i64 m))]) (by repeat (first | exact trivial | refine ⟨⟨_, rfl, fun _ _ _ h => h⟩, ?_⟩ | refine ⟨⟨_, rfl, fun v w' h e => by obtain rfl : v = _ := e; exact UR.lift (Sep.ext h) (by assumption)⟩, ?_⟩ | refine ⟨⟨_, rfl, fun v w' h e => by obtain rfl : v = _ := e; rw [← ins_eq]; exact Sep.isS (m := 0) h rfl⟩, ?_⟩ | refine ⟨⟨_, rfl, fun v w' h e => by obtain rfl : v = _ := e; rw [← ins_eq]; exact Sep.isO (m := 0) h rfl (Nat.le_trans hs hE.size)⟩, ?_⟩)) (C' := Ext w) (fun w' h => hE.trans (Sep.ext h)) ?_; have hC := upC_ext w)
  try any_goals (refine H_open 2 rfl (fun q13 u2 hw hr2 => ?_); have hE := hw)
  try any_goals (refine H_open 3 rfl (fun q13 u3 hw hr3 => ?_); have hE := hE.trans hw; have hr2 := UR.lift hw hr2)
  try any_goals (refine H_open 5 rfl (fun q13 u5 hw hr5 => ?_); have hE := hE.trans hw; have hr2 := UR.lift hw hr2; have hr3 := UR.lift hw hr3)
  try any_goals (refine H_open 6 rfl (fun q13 u6 hw hr6 => ?_); have hE := hE.trans hw; have hr2 := UR.lift hw hr2; have hr3 := UR.lift hw hr3; have hr5 := UR.lift hw hr5)
  try any_goals (have hC := upC_ext q13; obtain ⟨AO, nO, cO, eO, hnO, hcO, hmO, _⟩ := id hr6; subst eO)
  try any_goals (refine H_drawT [8, 9, 10] [0, 1, 2, 3, 4, 5, 6] [7, 11, 12] (by kernel_rfl) (by kernel_rfl) hC (fun _ _ _ _ _ h => h) ?_)
  try any_goals (refine L_move rfl rfl ?_)
  try any_goals (refine L_move rfl rfl ?_)
  try any_goals (refine L_sliceFromV (k := (Phi.k pI)) (by kernel_rfl) rfl rfl rfl (by first | omega | (dsimp only; omega)) ?_)
  try any_goals (refine L_nil ?_)
  try any_goals (refine W_buildF (d := 61) wkH_stepper [] pI [] (e := 3) (by kernel_rfl) (by kernel_rfl) rfl rfl (by kernel_rfl) rfl rfl rfl trivial ?_)
  try any_goals (refine W_moveR (d := 62) wkH_stepper (U := uS (some 3) pI ((isortL svLt (svL t f i)).map Sv.a)) (fun w' h => IsS.up h hr6) rfl rfl rfl ?_)
  try any_goals (refine W_move (d := 63) wkH_stepper rfl rfl rfl ?_)
  try any_goals (refine W_sliceTo (d := 64) wkH_stepper (by kernel_rfl) rfl rfl rfl rfl ⟨by omega, by omega⟩ ?_)
  try any_goals (refine W_appNewZ (d := 65) wkH_stepper (s := q13.heap.size) (e := 3) (hfl := flat_I) (fun w' h => h.size) (by kernel_rfl) (by kernel_rfl) rfl rfl rfl rfl (by simp only [List.length_append, List.length_take, List.length_drop, List.length_cons, List.length_nil]; omega) ?_)
  try any_goals (refine W_move (d := 66) wkH_stepper rfl rfl rfl ?_)
  try any_goals (refine W_buildS (d := 67) wkH_stepper [(Operand.tmp 66)] pI [_] (e := 3) (by kernel_rfl) (by kernel_rfl) rfl rfl (by kernel_rfl) rfl rfl rfl ⟨elem_I, trivial⟩ ?_)
  try any_goals (refine WkH_nil ?_)
  try any_goals (refine Sq_openO 65 rfl (fun v65 => ?_); refine Sq_appSZ (d := 68) 0 (Ψ := pI) (zs := [(svT t i (svQ t f i))]) rfl (by repeat (first | exact trivial | refine ⟨?_, ?_⟩)) (by kernel_rfl) (by kernel_rfl) rfl rfl rfl (by simp only [List.length_append, List.length_take, List.length_drop, List.length_cons, List.length_nil]; omega) (fun v68 => ?_))
  try any_goals (refine Sq_recall 71 (U := uS (some 3) pI ((((isortL svLt (svL t f i)).map Sv.a)).drop ((m : Int)).toNat)) (fun w' h => IsS.up (Sep.ext h) (IsS.dropV hr6 (by omega))) rfl ?_; refine Sq_appSZ (d := 72) 0 (Ψ := pI) rfl (by repeat (first | exact trivial | refine ⟨?_, ?_⟩)) (by kernel_rfl) (by kernel_rfl) rfl rfl rfl (by simp only [List.length_append, List.length_take, List.length_drop, List.length_cons, List.length_nil]; omega) (fun v72 => ?_))
  try any_goals (refine W_assign (d := 6) (sq_stepper upC_sep) rfl rfl rfl ?_)
  try any_goals (refine Sq_nil ?_)
  repeat (any_goals (first | refine G_exit_then ?_ | refine G_exit_here ?_ | refine G_exit_far rfl ?_ | refine G_normal_block ?_))
  try any_goals (refine G_then ?_)
  try any_goals (refine H_sub (K' := [(2, .inr (uP bTab t)), (3, .inr (uP pFlw f)), (5, .inr (uO s oIntS (insAt ((isortL svLt (svL t f i)).map Sv.t) (m : Int).toNat (i : Int)))), (6, .inr (uS (some 3) pI (insAt ((isortL svLt (svL t f i)).map Sv.a) (m : Int).toNat (svT t i (svQ t f i))))), (7, .inl (.int .i64 i))]) (by repeat (first | exact trivial | refine ⟨⟨_, rfl, fun _ _ _ h => h⟩, ?_⟩ | refine ⟨⟨_, rfl, fun v w' h e => by obtain rfl : v = _ := e; exact UR.lift (Sep.ext h) (by assumption)⟩, ?_⟩ | refine ⟨⟨_, rfl, fun v w' h e => by obtain rfl : v = _ := e; rw [← ins_eq]; exact Sep.isS (m := 0) h rfl⟩, ?_⟩ | refine ⟨⟨_, rfl, fun v w' h e => by obtain rfl : v = _ := e; rw [← ins_eq]; exact Sep.isO (m := 0) h rfl (Nat.le_trans hs hE.size)⟩, ?_⟩)) (C' := Ext w) (fun w' h => hE.trans (Sep.ext h)) ?_; have hC := upC_ext w)
  try any_goals (refine H_reg ?_)
  try any_goals (refine W_move (d := 19) (sq_stepper hC) rfl rfl rfl ?_)
  try any_goals (refine W_ar (d := 20) (sq_stepper hC) rfl rfl rfl rfl rfl (by first | omega | (dsimp only; omega)) ?_)
  try any_goals (refine W_assign (d := 7) (sq_stepper hC) rfl rfl rfl ?_)
  try any_goals (refine Sq_nil ?_)
  try any_goals (first | refine G_again (i + 1) (by omega) (by omega) (by rw [svL_n hok]; exact (by repeat (first | exact trivial | refine ⟨⟨_, rfl, fun _ _ _ h => h⟩, ?_⟩ | refine ⟨⟨_, rfl, fun v w _ h => (show v = _ from h).trans (congrArg (Value.int .i64) (by first | omega | (dsimp only; omega)))⟩, ?_⟩))) (fun _ h => h) | refine G_again (i + 1) (by omega) (by omega) ?_ (fun _ h => h))
  repeat (any_goals (first | refine G_exit_then ?_ | refine G_exit_here ?_ | refine G_exit_far rfl ?_ | refine G_normal_block ?_))
  try any_goals (refine W_move (d := 73) (sq_stepper hC) rfl rfl rfl ?_)
  try any_goals (refine W_assign (d := 4) (sq_stepper hC) rfl rfl rfl ?_)
  try any_goals (refine Sq_nil ?_; try refine G_then ?_)
  try any_goals (refine H_ret ?_)
  repeat (any_goals (first | refine G_ret_then ?_ | refine G_ret_block ?_))
  all_goals first
    | (rw [hm2]
       obtain ⟨k, rfl⟩ : ∃ k, m = k + 1 := ⟨m - 1, by omega⟩
       exact insPos_yes (svC_y (by rw [show ((k : Nat) : Int) = ((k + 1 : Nat) : Int) - 1 by omega]; exact hq)))
    | (have hmst : m = 0 ∨ svC t f i (m - 1) = false := by
         rcases Nat.eq_zero_or_pos m with h0 | h0
         · exact .inl h0
         · exact .inr (svC_n (by rw [show ((m - 1 : Nat) : Int) = (m : Int) - 1 by omega]; first | exact hq | (exfalso; omega)))
       have hp := sv_put hok (insPos_stop hm2 hmst)
       rw [← hp, ← insAt_map, ← insAt_map]
       simp only [Int.toNat_natCast]
       exact (by repeat (first | exact trivial | refine ⟨⟨_, rfl, fun _ _ _ h => h⟩, ?_⟩ | refine ⟨⟨_, rfl, fun v w _ h => (show v = _ from h).trans (congrArg (Value.int .i64) (by first | omega | (dsimp only; omega)))⟩, ?_⟩)))
    | (exact R1 rfl (fun _ h => h) rfl (fun v w' _ hv => by
        have e : i = t.T.length := by omega
        rw [e] at hv
        exact hv))
    | trace_state
theorem ct_l20Serving (t : Tab) (f : Flw) (hv : tabB t = true) : CT Try.prog 60 [.inr (uA bTab t), .inr (uA pFlw f)] (.inr (uS (some 3) pI ((svS t f).map Sv.t))) :=
  (cg_l20Serving t f hv).ct fun s v w ⟨_, _, h⟩ => OS.isS h
end Go.Proofs.Ytfnihicngoaejaa

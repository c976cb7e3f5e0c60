/- LongestGap: both sides. -/
import Derived.Test.YtikijhclakccpaaGreatPdq
import Derived.Test.YtikijhclakccpaaGreatStr
import Derived.Test.YtikijhclakccpaaGreatLsA
import Derived.Test.YtikijhclakccpaaGreatSlc
namespace Go.Proofs.YtikijhclakccpaaGreat
set_option linter.unusedSimpArgs false
set_option linter.unusedVariables false
open Go.RowKit Go.ChangeShapes Go.WideShapes Go.ChangeAt Go.Deep
section
variable {P : Program} {ops : Array Oper} {C : World → Prop} {N : Nat} {M : List (Nat × Pr) → List Oper → Prop} {K : List (Nat × Pr)} {rest : List Oper} {d : Nat} {op : Op} {ty : TypeId} {pos : String} {af : Array Edge} {g : Option (Nat × Bool)}
theorem W_conv (hM : Stepper P ops C N M) {n : Int} {k k' : IntKind} {x : Operand} {t t' : TypeId} (ht : P.underlying t = some (.int k)) (ht' : P.underlying t' = some (.int k')) (hg : wantedK ops K g = some true) (hN : Nat.blt d N = true) (hx : kn K x = some (.inl (.int k n)))
    (h : M ((d, .inl (.int k' (k'.wrap n))) :: K) rest) : M K (⟨some d, .convert t t' x, ty, pos, af, g⟩ :: rest) :=
  W_val hM hN hg (fun ρ w _ hk => by
    have hv : ρ x = .int k n := hk x (by simp [Op.operands]) _ hx
    simp [execOp, hv, convert, run_underlying ht, run_underlying ht', Conv.intToInt]) h
end
def lenI (n : Int) : Int := if n = 0 then 0 else if n < 2 then 1 else if n < 4 then 2 else if n < 8 then 3 else 4
theorem ct_Len64 (n : Int) (h : 0 ≤ n ∧ n ≤ 12) : CT Tryz.prog 83 [.inl (.int .u64 n)] (.inl (.int .i64 (lenI n))) := by
  have h : n = 0 ∨ n = 1 ∨ n = 2 ∨ n = 3 ∨ n = 4 ∨ n = 5 ∨ n = 6 ∨ n = 7 ∨ n = 8 ∨ n = 9 ∨ n = 10 ∨ n = 11 ∨ n = 12 := by omega
  refine CT_of Tryz.func83 rfl rfl rfl (fun w => ?_)
  have hC := upC_ext w
  rcases h with rfl | rfl | rfl | rfl | rfl | rfl | rfl | rfl | rfl | rfl | rfl | rfl | rfl
  try any_goals (first | (refine H_seq ?_; try refine H_reg ?_) | refine H_reg ?_)
  try any_goals (refine W_assign (d := 2) (sq_stepper hC) rfl rfl rfl ?_)
  try any_goals (first | (refine Sq_nil ?_; try refine G_then ?_) | refine G_then ?_)
  try any_goals (refine H_seq ?_)
  try any_goals (first | (refine H_seq ?_; try refine H_reg ?_) | refine H_reg ?_)
  try any_goals (refine W_move (d := 3) (sq_stepper hC) rfl rfl rfl ?_)
  try any_goals (first | refine W_cmp (d := 4) (sq_stepper hC) rfl rfl rfl rfl rfl ?_ | refine W_strcmp (d := 4) (sq_stepper hC) rfl rfl rfl rfl rfl ?_)
  try any_goals (first | (refine Sq_nil ?_; try refine G_then ?_) | refine G_then ?_)
  try any_goals (first | refine H_condT rfl ?_ | refine H_condF rfl ?_ | (refine H_cond _ rfl (fun hq => ?_) (fun hq => ?_) <;> (try simp only [hqs, reduceCtorEq] at hq)))
  try any_goals (first | ((exfalso; omega)) | skip)
  try any_goals (first | (refine H_seq ?_; try refine H_reg ?_) | refine H_reg ?_)
  try any_goals (refine W_move (d := 5) (sq_stepper hC) rfl rfl rfl ?_)
  try any_goals (fail)
  try any_goals (refine W_assign (d := 0) (sq_stepper hC) rfl rfl rfl ?_)
  try any_goals (first | (refine Sq_nil ?_; try refine G_then ?_) | refine G_then ?_)
  try any_goals (refine H_reg ?_)
  try any_goals (refine W_assign (d := 2) (sq_stepper hC) rfl rfl rfl ?_)
  try any_goals (refine Sq_nil ?_)
  try any_goals (refine H_skip ?_)
  try any_goals (refine G_then ?_)
  try any_goals (refine H_seq ?_)
  try any_goals (first | (refine H_seq ?_; try refine H_reg ?_) | refine H_reg ?_)
  try any_goals (refine W_move (d := 7) (sq_stepper hC) rfl rfl rfl ?_)
  try any_goals (first | refine W_cmp (d := 8) (sq_stepper hC) rfl rfl rfl rfl rfl ?_ | refine W_strcmp (d := 8) (sq_stepper hC) rfl rfl rfl rfl rfl ?_)
  try any_goals (first | (refine Sq_nil ?_; try refine G_then ?_) | refine G_then ?_)
  try any_goals (first | refine H_condT rfl ?_ | refine H_condF rfl ?_ | (refine H_cond _ rfl (fun hq => ?_) (fun hq => ?_) <;> (try simp only [hqs, reduceCtorEq] at hq)))
  try any_goals (first | ((exfalso; omega)) | skip)
  try any_goals (first | (refine H_seq ?_; try refine H_reg ?_) | refine H_reg ?_)
  try any_goals (refine W_move (d := 9) (sq_stepper hC) rfl rfl rfl ?_)
  try any_goals (fail)
  try any_goals (refine W_assign (d := 0) (sq_stepper hC) rfl rfl rfl ?_)
  try any_goals (first | (refine Sq_nil ?_; try refine G_then ?_) | refine G_then ?_)
  try any_goals (refine H_reg ?_)
  try any_goals (refine W_move (d := 11) (sq_stepper hC) rfl rfl rfl ?_)
  try any_goals (refine W_ar (d := 12) (sq_stepper hC) rfl rfl rfl rfl rfl (by first | omega | (dsimp only; omega)) ?_)
  try any_goals (refine W_assign (d := 2) (sq_stepper hC) rfl rfl rfl ?_)
  try any_goals (refine Sq_nil ?_)
  try any_goals (refine H_skip ?_)
  try any_goals (refine G_then ?_)
  try any_goals (refine H_seq ?_)
  try any_goals (first | (refine H_seq ?_; try refine H_reg ?_) | refine H_reg ?_)
  try any_goals (refine W_move (d := 13) (sq_stepper hC) rfl rfl rfl ?_)
  try any_goals (first | refine W_cmp (d := 14) (sq_stepper hC) rfl rfl rfl rfl rfl ?_ | refine W_strcmp (d := 14) (sq_stepper hC) rfl rfl rfl rfl rfl ?_)
  try any_goals (first | (refine Sq_nil ?_; try refine G_then ?_) | refine G_then ?_)
  try any_goals (first | refine H_condT rfl ?_ | refine H_condF rfl ?_ | (refine H_cond _ rfl (fun hq => ?_) (fun hq => ?_) <;> (try simp only [hqs, reduceCtorEq] at hq)))
  try any_goals (first | ((exfalso; omega)) | skip)
  try any_goals (first | (refine H_seq ?_; try refine H_reg ?_) | refine H_reg ?_)
  try any_goals (refine W_move (d := 15) (sq_stepper hC) rfl rfl rfl ?_)
  try any_goals (fail)
  try any_goals (refine W_assign (d := 0) (sq_stepper hC) rfl rfl rfl ?_)
  try any_goals (first | (refine Sq_nil ?_; try refine G_then ?_) | refine G_then ?_)
  try any_goals (refine H_reg ?_)
  try any_goals (refine W_move (d := 17) (sq_stepper hC) rfl rfl rfl ?_)
  try any_goals (refine W_ar (d := 18) (sq_stepper hC) rfl rfl rfl rfl rfl (by first | omega | (dsimp only; omega)) ?_)
  try any_goals (refine W_assign (d := 2) (sq_stepper hC) rfl rfl rfl ?_)
  try any_goals (refine Sq_nil ?_)
  try any_goals (refine H_skip ?_)
  try any_goals (refine G_then ?_)
  try any_goals (first | (refine H_seq ?_; try refine H_reg ?_) | refine H_reg ?_)
  try any_goals (refine W_move (d := 19) (sq_stepper hC) rfl rfl rfl ?_)
  try any_goals (refine W_move (d := 20) (sq_stepper hC) rfl rfl rfl ?_)
  try any_goals (refine W_conv (d := 21) (sq_stepper hC) Tryz.underlying119 Tryz.underlying5 rfl rfl rfl ?_)
  try any_goals (refine W_strIdx (d := 22) (sq_stepper hC) (by kernel_rfl) rfl rfl rfl rfl (by decide +kernel) ?_)
  try any_goals (refine W_conv (d := 23) (sq_stepper hC) Tryz.underlying5 Tryz.underlying3 rfl rfl rfl ?_)
  try any_goals (refine W_ar (d := 24) (sq_stepper hC) rfl rfl rfl rfl rfl (by decide +kernel) ?_)
  try any_goals (refine W_assign (d := 2) (sq_stepper hC) rfl rfl rfl ?_)
  try any_goals (first | (refine Sq_nil ?_; try refine G_then ?_) | refine G_then ?_)
  try any_goals (refine H_ret ?_)
  repeat (any_goals (first | refine G_ret_then ?_ | refine G_ret_block ?_))
  all_goals first
    | exact R1v rfl (fun _ h => h) rfl (congrArg (Value.int .i64) (by decide +kernel))
    | trace_state
theorem ct_Len (n : Int) (h : 0 ≤ n ∧ n ≤ 12) : CT Tryz.prog 56 [.inl (.int .u64 n)] (.inl (.int .i64 (lenI n))) := by
  refine CT_of Tryz.func56 rfl rfl rfl (fun w => ?_)
  have hC := upC_ext w
  try any_goals (first | (refine H_seq ?_; try refine H_reg ?_) | refine H_reg ?_)
  try any_goals (refine W_assign (d := 2) (sq_stepper hC) rfl rfl rfl ?_)
  try any_goals (first | (refine Sq_nil ?_; try refine G_then ?_) | refine G_then ?_)
  try any_goals (refine H_seq ?_)
  try any_goals (first | refine H_condT rfl ?_ | refine H_condF rfl ?_ | (refine H_cond _ rfl (fun hq => ?_) (fun hq => ?_) <;> (try simp only [hqs, reduceCtorEq] at hq)))
  try any_goals (first | (refine H_seq ?_; try refine H_reg ?_) | refine H_reg ?_)
  try any_goals (refine W_move (d := 3) (sq_stepper hC) rfl rfl rfl ?_)
  try any_goals (fail)
  try any_goals (fail)
  try any_goals (refine W_assign (d := 2) (sq_stepper hC) rfl rfl rfl ?_)
  try any_goals (first | (refine Sq_nil ?_; try refine G_then ?_) | refine G_then ?_)
  try any_goals (refine H_ret ?_)
  repeat (any_goals (first | refine G_ret_then ?_ | refine G_ret_block ?_))
  try any_goals (refine H_skip ?_)
  try any_goals (refine G_then ?_)
  try any_goals (first | (refine H_seq ?_; try refine H_reg ?_) | refine H_reg ?_)
  try any_goals (refine W_move (d := 6) (sq_stepper hC) rfl rfl rfl ?_)
  try any_goals (refine W_ct (d := 7) (sq_stepper hC) (ct_Len64 _ h) rfl rfl rfl (by kernel_rfl) ?_)
  try any_goals (refine W_assign (d := 2) (sq_stepper hC) rfl rfl rfl ?_)
  try any_goals (first | (refine Sq_nil ?_; try refine G_then ?_) | refine G_then ?_)
  try any_goals (refine H_ret ?_)
  repeat (any_goals (first | refine G_ret_then ?_ | refine G_ret_block ?_))
  all_goals first
    | exact R1v rfl (fun _ h => h) rfl rfl
    | trace_state
theorem wrapU {n : Int} (h : 0 ≤ n ∧ n ≤ 12) : IntKind.u64.wrap n = n := by
  have h : n = 0 ∨ n = 1 ∨ n = 2 ∨ n = 3 ∨ n = 4 ∨ n = 5 ∨ n = 6 ∨ n = 7 ∨ n = 8 ∨ n = 9 ∨ n = 10 ∨ n = 11 ∨ n = 12 := by omega
  rcases h with rfl | rfl | rfl | rfl | rfl | rfl | rfl | rfl | rfl | rfl | rfl | rfl | rfl <;> decide +kernel
end Go.Proofs.YtikijhclakccpaaGreat
namespace Go.Proofs.YtikijhclakccpaaGreat
open Go.RowKit Go.ChangeShapes Go.WideShapes Go.ChangeAt Go.Deep
section
variable {P : Program} {ops : Array Oper} {C : World → Prop} {N : Nat} {M : List (Nat × Pr) → List Oper → Prop} {K : List (Nat × Pr)} {rest : List Oper} {d : Nat} {ty : TypeId} {pos : String} {af : Array Edge} {g : Option (Nat × Bool)}
theorem W_sliceFT (hM : Stepper P ops C N M) {α : Type} {Φ : Phi α} {es : Option TypeId} {xs : List α} {x y z : Operand} {t : TypeId} {i j : Int} (hB : elemB P t Φ.k = true) (hg : wantedK ops K g = some true) (hN : Nat.blt d N = true)
    (hx : kn K x = some (.inr (uS es Φ xs))) (hy : kn K y = some (.inl (.int .i64 i))) (hz : kn K z = some (.inl (.int .i64 j))) (hi : 0 ≤ i ∧ i ≤ j ∧ j ≤ (xs.length : Int))
    (h : M ((d, .inr (uS es Φ ((xs.drop i.toNat).take (j - i).toNat))) :: K) rest) : M K (⟨some d, .slice t x (some y) (some z) none, ty, pos, af, g⟩ :: rest) :=
  W_det hM _ hN hg (fun ρ w _ hk => by
    obtain ⟨A, n, c, hv, hn, hnc, hcm, hall⟩ : IsS es Φ xs (ρ x) w := hk x (by simp [Op.operands]) _ hx
    have hyv : ρ y = .int .i64 i := hk y (by simp [Op.operands]) _ hy
    have hzv : ρ z = .int .i64 j := hk z (by simp [Op.operands]) _ hz
    obtain ⟨te, inf, hu, hinf, hsz⟩ := elemB_spec hB
    have b1 : 0 ≤ i ∧ i ≤ j := by omega
    have b2 : 0 ≤ j ∧ j ≤ (c : Int) := by omega
    have b3 : i.toNat ≤ j.toNat := by omega
    refine ⟨.slice (if c = i.toNat then A else A.map (·.add (i.toNat * Φ.k))) (j.toNat - i.toNat) (c - i.toNat), ?_, _, _, _, rfl, by rw [List.length_take, List.length_drop]; omega, by omega, by omega, fun q u hq => ?_⟩
    · simp [execOp, hv, hyv, hzv, Instr.sliceAt, Instr.slice, Instr.sliceBounds, Instr.sliceBound, asIntOf, run_underlying hu, sizeOf_run hinf, hsz, b1, b2, b3, (show i ≤ max j 0 by omega), (show 0 ≤ j by omega)]
    · rw [List.getElem?_take] at hq
      split at hq
      · rw [List.getElem?_drop] at hq
        have hlt := (List.getElem?_eq_some_iff.1 hq).1
        obtain ⟨b, o, cs, hA, hcell, hφ, ht⟩ := hall (i.toNat + q) u hq
        refine ⟨b, o + i.toNat * Φ.k, cs, by rw [if_neg (by omega), hA]; simp [Addr.add_lit], fun r u hu => ?_, hφ, ht⟩
        have := hcell r u hu
        rw [Nat.add_mul] at this
        rwa [show o + i.toNat * Φ.k + (q * Φ.k + r) = o + (i.toNat * Φ.k + q * Φ.k + r) by omega]
      · cases hq) h
end
def lgB (t : Tab) (xs : List Rn) (ln st : Int) : Bool := rnsB t xs && (inB ln 0 ((t.N.L.length : Int) - 1) && inB st 0 ((t.N.S.length : Int) - 1))
def lgV (t : Tab) (xs : List Rn) (ln st : Int) : Int := if lgB t xs ln st then gapM ((gaS t xs st ln xs.length).map A2.a) (gaS t xs st ln xs.length).length else 0
theorem lg_n {t : Tab} {xs : List Rn} {ln st : Int} (h : rnsB t xs = false ∨ inB ln 0 ((t.N.L.length : Int) - 1) = false ∨ inB st 0 ((t.N.S.length : Int) - 1) = false) : lgB t xs ln st = false ∧ lgV t xs ln st = 0 := by
  have hb : lgB t xs ln st = false := by
    rcases h with h | h | h <;> simp [lgB, h]
  exact ⟨hb, by rw [lgV, hb]; rfl⟩
theorem lg_y {t : Tab} {xs : List Rn} {ln st : Int} (h1 : rnsB t xs = true) (h2 : inB ln 0 ((t.N.L.length : Int) - 1) = true) (h3 : inB st 0 ((t.N.S.length : Int) - 1) = true) : lgB t xs ln st = true ∧ lgV t xs ln st = gapM ((gaS t xs st ln xs.length).map A2.a) (gaS t xs st ln xs.length).length := by
  have hb : lgB t xs ln st = true := by simp [lgB, h1, h2, h3]
  exact ⟨hb, by rw [lgV, hb]; rfl⟩
theorem ga_bd {t : Tab} {xs : List Rn} {st ln : Int} (hv : tabB t = true) (hr : runsB t xs = true) {k : Int} (h0 : 0 ≤ k) (h1 : k < ((gaS t xs st ln xs.length).length : Int)) : 0 ≤ (ix (gaS t xs st ln xs.length) k).a ∧ (ix (gaS t xs st ln xs.length) k).a ≤ 2260 := by
  obtain ⟨j, hj, hok, e⟩ := gaS_at h0 h1
  obtain ⟨hg1, hg2, hg3, hg4, hg5, hg6⟩ := ga_run (st := st) hv hr hj
  have hk := gaOk_t hok
  have hb := hg6 (by omega)
  rw [e]
  show 0 ≤ gaM t st (ix xs j) ∧ gaM t st (ix xs j) ≤ 2260
  unfold gaM
  omega
theorem gapM_one {L : List Int} {i n : Nat} (hi : n ≤ i) (h : i ≤ n ∨ i = 1) : gapM L i = gapM L n := by
  rcases h with h | h
  · rw [show i = n by omega]
  · subst h
    match n, hi with
    | 0, _ => rfl
    | 1, _ => rfl
theorem ct_runStops (t : Tab) (x : Rn) (hv : tabB t = true) (hf : 0 ≤ fndT t x.T) (hb : 0 ≤ x.F ∧ x.F < x.O ∧ x.O < ((trLin t (fndT t x.T)).S.length : Int)) : CT Tryz.prog 28 [.inr (uA bTab t), .inr (uA pRn x)] (.inr (uS (some 3) pI (((trLin t (fndT t x.T)).S.drop x.F.toNat).take (x.O + 1 - x.F).toNat))) := by
  have hfb := fndT_bd (t := t) (id := x.T)
  have htr := tabB_at hv hf hfb.2
  have hz := (tabB_lin hv hf hfb.2).s
  have hse : ((ix t.N.L (ix t.T (fndT t x.T)).L).S.length : Int) = ((trLin t (fndT t x.T)).S.length : Int) := rfl
  refine CT_of Tryz.func28 rfl rfl rfl (fun w => ?_)
  have hC := upC_ext w
  try any_goals (first | (refine H_seq ?_; try refine H_reg ?_) | refine H_reg ?_)
  try any_goals (refine W_boxA (d := 2) (sq_stepper hC) rfl rfl rfl ?_)
  try any_goals (refine W_boxA (d := 3) (sq_stepper hC) rfl rfl rfl ?_)
  try any_goals (refine W_assign (d := 4) (sq_stepper hC) rfl rfl rfl ?_)
  try any_goals (first | (refine Sq_nil ?_; try refine G_then ?_) | refine G_then ?_)
  try any_goals (refine H_seq ?_)
  try any_goals (refine H_draw' (by kernel_rfl) hC ?_)
  try any_goals (refine W_loadA (d := 5) wk_stepper (by kernel_rfl) rfl rfl rfl ?_)
  try any_goals (refine W_loadA (d := 6) wk_stepper (by kernel_rfl) rfl rfl rfl ?_)
  try any_goals (first | refine W_fieldG (d := 7) wk_stepper (Proj.head _ _ _) (by kernel_rfl) rfl rfl rfl ?_ | refine W_fieldC (d := 7) wk_stepper (off := 0) (by kernel_rfl) rfl rfl rfl ?_)
  try any_goals (refine W_loadI (d := 8) wk_stepper (by kernel_rfl) rfl rfl rfl ?_)
  try any_goals (refine W_ct (d := 9) wk_stepper (ct_tripWith _ _ hf) rfl rfl rfl (by kernel_rfl) ?_)
  try any_goals (refine W_ct (d := 10) wk_stepper (ct_lineOf _ (ix t.T (fndT t x.T)) (by omega)) rfl rfl rfl (by kernel_rfl) ?_)
  try any_goals (first | refine W_fieldVS (d := 11) wk_stepper (Proj.tail _ _ (Proj.head _ _ _)) (by kernel_rfl) rfl rfl rfl ?_ | refine W_fieldV1 (d := 11) wk_stepper _ mk_I (Proj.tail _ _ (Proj.head _ _ _)) (by kernel_rfl) rfl rfl rfl ?_ | refine W_fieldV1 (d := 11) wk_stepper _ mk_B (Proj.tail _ _ (Proj.head _ _ _)) (by kernel_rfl) rfl rfl rfl ?_ | refine W_fieldV1 (d := 11) wk_stepper _ mk_Str (Proj.tail _ _ (Proj.head _ _ _)) (by kernel_rfl) rfl rfl rfl ?_)
  try any_goals (first | refine W_fieldG (d := 12) wk_stepper (Proj.tail _ _ (Proj.head _ _ _)) (by kernel_rfl) rfl rfl rfl ?_ | refine W_fieldC (d := 12) wk_stepper (off := 1) (by kernel_rfl) rfl rfl rfl ?_)
  try any_goals (refine W_loadI (d := 13) wk_stepper (by kernel_rfl) rfl rfl rfl ?_)
  try any_goals (first | refine W_fieldG (d := 14) wk_stepper (Proj.tail _ _ (Proj.tail _ _ (Proj.head _ _ _))) (by kernel_rfl) rfl rfl rfl ?_ | refine W_fieldC (d := 14) wk_stepper (off := 2) (by kernel_rfl) rfl rfl rfl ?_)
  try any_goals (refine W_loadI (d := 15) wk_stepper (by kernel_rfl) rfl rfl rfl ?_)
  try any_goals (refine W_ar (d := 16) wk_stepper rfl rfl rfl rfl rfl (by first | omega | (dsimp only; omega)) ?_)
  try any_goals (first | refine W_sliceFT (d := 17) wk_stepper (by kernel_rfl) rfl rfl rfl rfl rfl ⟨by omega, by omega, by omega⟩ ?_ | refine W_slice (d := 17) wk_stepper (by kernel_rfl) rfl rfl rfl rfl rfl (by first | omega | (dsimp only; omega)) ?_)
  try any_goals (refine Wk_assign (by kernel_rfl) (by kernel_rfl) ?_)
  try any_goals (refine W_assign (d := 4) (sq_stepper hC) rfl rfl rfl ?_)
  try any_goals (first | (refine Sq_nil ?_; try refine G_then ?_) | refine G_then ?_)
  try any_goals (refine H_ret ?_)
  repeat (any_goals (first | refine G_ret_then ?_ | refine G_ret_block ?_))
  all_goals first
    | exact R1 rfl (fun _ h => h) rfl (fun v w' _ hv => hv)
    | trace_state
/-- Where the program finds the stop. -/
theorem ga_idx {t : Tab} {x : Rn} {st : Int} (hv : tabB t = true) (hf : 0 ≤ fndT t x.T) (hb : 0 ≤ x.F ∧ x.F < x.O ∧ x.O < ((trLin t (fndT t x.T)).S.length : Int)) : fndI (((trLin t (fndT t x.T)).S.drop x.F.toNat).take (x.O + 1 - x.F).toNat) st = if x.F ≤ gaK t x st ∧ gaK t x st ≤ x.O then gaK t x st - x.F else -1 := by
  have hfb := fndT_bd (t := t) (id := x.T)
  rw [fndI_sub (tabB_fnd hv hf hfb.2) hb.1 (by omega)]
  show (if x.F ≤ gaK t x st ∧ gaK t x st < _ then gaK t x st - x.F else -1) = _
  by_cases h : x.F ≤ gaK t x st ∧ gaK t x st ≤ x.O
  · rw [if_pos h, if_pos (by omega)]
  · rw [if_neg h, if_neg (by omega)]
theorem ga_idx' {t : Tab} {x : Rn} {st : Int} (hv : tabB t = true) (hf : 0 ≤ fndT t x.T) (hb : 0 ≤ x.F ∧ x.F < x.O ∧ x.O < ((trLin t (fndT t x.T)).S.length : Int)) :
    (0 ≤ fndI (((trLin t (fndT t x.T)).S.drop x.F.toNat).take (x.O + 1 - x.F).toNat) st → (x.F ≤ gaK t x st ∧ gaK t x st ≤ x.O) ∧ fndI (((trLin t (fndT t x.T)).S.drop x.F.toNat).take (x.O + 1 - x.F).toNat) st = gaK t x st - x.F) ∧ (fndI (((trLin t (fndT t x.T)).S.drop x.F.toNat).take (x.O + 1 - x.F).toNat) st < 0 → ¬ (x.F ≤ gaK t x st ∧ gaK t x st ≤ x.O)) := by
  rw [ga_idx hv hf hb]
  split
  · rename_i h
    exact ⟨fun _ => ⟨h, rfl⟩, fun h2 => by omega⟩
  · rename_i h
    exact ⟨fun h2 => by omega, fun _ => h⟩
theorem gaT_y {t : Tab} {xs : List Rn} {s l : Int} {i : Nat} (h : gaOk t s l (ix xs i) = true) : gaT t xs s l (i + 1) = gaT t xs s l i ++ [gaM t s (ix xs i)] := by rw [gaT, gaL_y h, List.map_append]; rfl
theorem gaT_n {t : Tab} {xs : List Rn} {s l : Int} {i : Nat} (h : gaOk t s l (ix xs i) = false) : gaT t xs s l (i + 1) = gaT t xs s l i := by rw [gaT, gaL_n h]; rfl
theorem ga_rt {t : Tab} {x : Rn} {st : Int} (h0 : 0 ≤ x.F) (h : x.F ≤ gaK t x st ∧ gaK t x st ≤ x.O) : ix (rtX t x x.T) (gaK t x st - x.F) = gaM t st x := by
  have e : gaK t x st - x.F = (((gaK t x st - x.F).toNat : Nat) : Int) := by omega
  rw [e, rtX, ix_lstI (by unfold rtN; omega), rtF, gaM, show x.F.toNat + (gaK t x st - x.F).toNat = (gaK t x st).toNat by omega]
theorem ga_rn {t : Tab} {x : Rn} : (rtX t x x.T).length = rtN x := by rw [rtX, lstI_length]
end Go.Proofs.YtikijhclakccpaaGreat

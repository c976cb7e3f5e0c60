/- Levels of a battery before and after every leg. -/
import Derived.Test.YtdpcbbbfikhiiaaLeg
namespace Go.Proofs.Ytdpcbbbfikhiiaa
set_option linter.unusedSimpArgs false
set_option linter.unusedVariables false
open Go.RowKit Go.ChangeShapes Go.WideShapes Go.ChangeAt Go.Deep
def bef (xs : List Leg) (b : Bat) (l : Int) (p : List Int) : Nat → Int
  | 0 => l
  | i + 1 => min (bef xs b l p i - (ix xs i).U + b.G * ix p i) b.C
def befs (xs : List Leg) (b : Bat) (l : Int) (p : List Int) (n : Nat) : List Int := (List.range n).map (bef xs b l p)
theorem befs_length {xs : List Leg} {b : Bat} {l : Int} {p : List Int} {n : Nat} : (befs xs b l p n).length = n := by simp [befs]
theorem befs_succ {xs : List Leg} {b : Bat} {l : Int} {p : List Int} {n : Nat} : befs xs b l p (n + 1) = befs xs b l p n ++ [bef xs b l p n] := by simp [befs, List.range_succ]
def plAt (xs : List Leg) (p : List Int) (i : Int) : Bool := inB (ix p i) 0 ((ix xs (i + 1)).F - (ix xs i).T)
def plOk (xs : List Leg) (p : List Int) : Bool := decide ((p.length : Int) + 1 = xs.length) && (List.range p.length).all fun j => plAt xs p j
theorem plOk_t (xs : List Leg) (p : List Int) : (plOk xs p = true) ↔ ((p.length : Int) + 1 = xs.length ∧ ∀ j : Nat, (j : Int) < p.length → plAt xs p j = true) := by
  simp [plOk, List.all_eq_true]
/-- What is known where all is valid. -/
structure Val (xs : List Leg) (b : Bat) (l : Int) (p : List Int) : Prop where
  lg : legs xs = true
  bt : batB b = true
  lv : 0 ≤ l ∧ l ≤ b.C
  pl : plOk xs p = true
theorem Val.prod {xs : List Leg} {b : Bat} {l : Int} {p : List Int} (h : Val xs b l p) {i : Int} (h0 : 0 ≤ i) (h1 : i < p.length) : 0 ≤ b.G * ix p i ∧ b.G * ix p i ≤ 1799000 ∧ 0 ≤ ix p i := by
  have hp := ((plOk_t xs p).1 h.pl)
  have hi := hp.2 i.toNat (by omega)
  rw [show ((i.toNat : Nat) : Int) = i by omega, plAt, inB_t] at hi
  have hl := (legs_t xs).1 h.lg
  have a1 := hl.2 i.toNat (by omega)
  have a2 := hl.2 (i + 1).toNat (by omega)
  rw [show ((i.toNat : Nat) : Int) = i by omega, legAt_t] at a1
  rw [show (((i + 1).toNat : Nat) : Int) = i + 1 by omega, legAt_t] at a2
  have hb := h.bt
  rw [batB_t] at hb
  have u1 : 0 ≤ b.G := by omega
  have u2 : b.G ≤ 1000 := by omega
  have u3 : 0 ≤ ix p i := by omega
  have u4 : ix p i ≤ 1799 := by omega
  refine ⟨Int.mul_nonneg u1 u3, ?_, u3⟩
  calc b.G * ix p i ≤ 1000 * ix p i := Int.mul_le_mul_of_nonneg_right u2 u3
    _ ≤ 1000 * 1799 := Int.mul_le_mul_of_nonneg_left u4 (by omega)
    _ = 1799000 := by omega
theorem Val.leg {xs : List Leg} {b : Bat} {l : Int} {p : List Int} (h : Val xs b l p) {i : Int} (h0 : 0 ≤ i) (h1 : i < xs.length) : 0 ≤ (ix xs i).U ∧ (ix xs i).U ≤ 10000 := by
  have hl := (legs_t xs).1 h.lg
  have a1 := hl.2 i.toNat (by omega)
  rw [show ((i.toNat : Nat) : Int) = i by omega, legAt_t] at a1
  omega
theorem Val.len {xs : List Leg} {b : Bat} {l : Int} {p : List Int} (h : Val xs b l p) : (1 ≤ (xs.length : Int) ∧ (xs.length : Int) ≤ 12) ∧ (p.length : Int) + 1 = xs.length := ⟨((legs_t xs).1 h.lg).1, ((plOk_t xs p).1 h.pl).1⟩
theorem Val.bat {xs : List Leg} {b : Bat} {l : Int} {p : List Int} (h : Val xs b l p) : 1 ≤ b.C ∧ b.C ≤ 10000 ∧ 0 ≤ b.R ∧ b.R ≤ b.C ∧ 0 ≤ b.G ∧ b.G ≤ 1000 := by have := h.bt; rwa [batB_t] at this
theorem Val.bef {xs : List Leg} {b : Bat} {l : Int} {p : List Int} (h : Val xs b l p) : ∀ i : Nat, (i : Int) < xs.length → -10000 * i ≤ Proofs.Ytdpcbbbfikhiiaa.bef xs b l p i ∧ Proofs.Ytdpcbbbfikhiiaa.bef xs b l p i ≤ b.C
  | 0, _ => by have := h.lv; simp only [Proofs.Ytdpcbbbfikhiiaa.bef]; omega
  | i + 1, hi => by
    have ih := h.bef i (by omega)
    have hu := h.leg (i := i) (by omega) (by omega)
    have hp := h.prod (i := i) (by omega) (by have := h.len; omega)
    have hb := h.bat
    simp only [Proofs.Ytdpcbbbfikhiiaa.bef]
    omega
theorem bef_next {xs : List Leg} {b : Bat} {l : Int} {p : List Int} {i : Nat} {lev : Int} (h : 1 ≤ i) (hlev : lev = bef xs b l p (i - 1)) : min (lev - (ix xs ((i : Int) - 1)).U + b.G * ix p ((i : Int) - 1)) b.C = bef xs b l p (i + 1 - 1) := by
  obtain ⟨k, rfl⟩ : ∃ k, i = k + 1 := ⟨i - 1, by omega⟩
  rw [hlev, show k + 1 + 1 - 1 = k + 1 by omega, show k + 1 - 1 = k by omega, bef, show (((k + 1 : Nat) : Int) - 1) = (k : Int) by omega]
theorem befs_app {xs : List Leg} {b : Bat} {l : Int} {p : List Int} {i : Nat} {y : Int} {cs csa news : List Value} {w : World} (hy : y = bef xs b l p (i + 1 - 1)) (hl : i * pI.k ≤ cs.length) (h1 : LS pI (befs xs b l p i) cs w) (h2 : LS pI [y] news w)
    (ht : csa.take ((i + [y].length) * pI.k) = cs.take (i * pI.k) ++ news) : LS pI (befs xs b l p (i + 1)) csa w := by
  rw [befs_succ, show bef xs b l p i = y from hy.symm]
  exact ls_app befs_length.symm rfl hl h1 h2 ht
theorem cg_sBefore {e1 e2 : Option TypeId} (xs : List Leg) (b : Bat) (l : Int) (p : List Int) (hv : Val xs b l p) : CTG Try.prog 63 [.inr (uS e1 pLeg xs), .inr (uA pBat b), .inl (.int .i64 l), .inr (uS e2 pI p)] (fun s => .inr (uO s oIntS (befs xs b l p xs.length))) := by
  refine CTG_of4V Try.func63 rfl rfl rfl (fun w s v0 v1 v2 v3 hs hv0 hv1 hv2 hv3 => ?_)
  obtain ⟨cs0, rfl, hz0⟩ := hv1
  obtain rfl : v2 = .int .i64 l := hv2
  have hlen := hv.len
  have hbat := hv.bat
  refine H_weakenC (C' := Cls w [] fun _ => True) (fun w' h => cls_ext w' h) ?_
  have hF : UpC (fun _ : World => True) := upC_true
  try any_goals (refine H_seq ?_)
  try any_goals (refine H_reg ?_)
  try any_goals (first | refine Sq_boxC (d := 5) hF rfl rfl (fun g5 hlo => ?_))
  try any_goals (first | refine W_assign (d := 8) (sq_stepper (upC_cls hF)) rfl rfl rfl ?_)
  try any_goals (refine Sq_nil ?_)
  try any_goals (refine G_then ?_)
  try any_goals (refine H_seq ?_)
  try any_goals (refine H_reg ?_)
  try any_goals (first | refine W_move (d := 11) (sq_stepper (upC_cls hF)) rfl rfl rfl ?_)
  try any_goals (refine Sq_buildC (d := 12) [Operand.tmp 11] pI [_] (e := 3) hF (by kernel_rfl) (by kernel_rfl) rfl rfl (by kernel_rfl) rfl rfl ⟨elem_I, trivial⟩ (fun g0 c0 hg0 hc0 hF => ?_))
  try any_goals (first | refine W_assign (d := 9) (sq_stepper (upC_cls hF)) rfl rfl rfl ?_)
  try any_goals (refine Sq_nil ?_)
  try any_goals (refine G_then ?_)
  try any_goals (refine H_seq ?_)
  try any_goals (refine H_seq ?_)
  try any_goals (refine H_reg ?_)
  try any_goals (first | refine W_assign (d := 10) (sq_stepper (upC_cls hF)) rfl rfl rfl ?_)
  try any_goals (refine Sq_nil ?_)
  try any_goals (refine G_then ?_)
  try any_goals (refine H_block ?_)
  try any_goals ((refine H_loop (σ := Nat × Int × Option Nat × Nat × List Value) (fun x => 1 ≤ x.1 ∧ x.1 ≤ xs.length ∧ x.2.1 = bef xs b l p (x.1 - 1) ∧ x.2.2.2.2.length = x.2.2.2.1 * pI.k ∧ x.1 ≤ x.2.2.2.1 ∧ x.2.2.2.1 ≤ maxLen ∧ x.2.2.1 ≠ none) (fun x => [(0, .inl v0), (3, .inl v3), (5, .inl (.pointer (some ⟨g5, 0, none⟩))), (2, .inl (.int .i64 x.2.1)), (9, .inl (.slice (aOf x.2.2.1) x.1 x.2.2.2.1)), (10, .inl (.int .i64 x.1))]) (fun x => Cls w [(x.2.2.1, 3, x.2.2.2.2), (some g5, 26, cs0)] (LS pI (befs xs b l p x.1) x.2.2.2.2)) (fun x => (xs.length - x.1)) (1, l, some g0, 1, c0) ⟨by simp only; omega, by simp only; omega, rfl, hc0, by simp only; omega, by simp only [maxLen]; omega, by simp⟩ (fun a w' h => h.sub (by repeat (first | exact trivial | refine ⟨⟨_, rfl, fun _ _ _ h => h⟩, ?_⟩)) (fun w' h => h.fact fun hf => hf.2)) (fun x hx => ?_); obtain ⟨i, lev, A, c, cs⟩ := x; obtain ⟨h0, h1, hlev, hcl, hcc, hcm, hA⟩ := hx; simp only at h0 h1 hlev hcl hcc hcm hA; have hF : UpC (LS pI (befs xs b l p i) cs) := upC_ls; have hbf := hv.bef (i - 1) (by omega)))
  try any_goals (refine H_seq ?_)
  try any_goals (refine H_seq ?_)
  try any_goals (refine H_reg ?_)
  try any_goals (first | refine W_move (d := 13) (sq_stepper (upC_cls hF)) rfl rfl rfl ?_)
  try any_goals (first | refine W_moveR (d := 14) (sq_stepper (upC_cls hF)) (U := uS e1 pLeg xs) (fun w' h => IsS.up (Cls.ext h) hv0) rfl rfl rfl ?_ | refine W_move (d := 14) (sq_stepper (upC_cls hF)) rfl rfl rfl ?_)
  try any_goals (first | refine W_len (d := 15) (sq_stepper (upC_cls hF)) (by kernel_rfl) rfl rfl rfl ?_ | refine W_lenStr (d := 15) (sq_stepper (upC_cls hF)) (by kernel_rfl) rfl rfl rfl ?_)
  try any_goals (first | refine W_cmp (d := 16) (sq_stepper (upC_cls hF)) rfl rfl rfl rfl rfl ?_ | refine W_strcmp (d := 16) (sq_stepper (upC_cls hF)) rfl rfl rfl rfl rfl ?_)
  try any_goals (refine Sq_nil ?_)
  try any_goals (refine G_then ?_)
  try any_goals (first | refine H_condT rfl ?_ | refine H_condF rfl ?_ | (refine H_cond _ rfl (fun hq => ?_) (fun hq => ?_) <;> (try simp only [eq_self, not_true_eq_false, not_false_eq_true, bne_self_eq_false, Bool.false_eq_true, Bool.true_eq_false, Bool.and_eq_true, Bool.or_eq_true, Bool.or_eq_false_iff, Bool.not_not, inB_t, inB_f, decide_eq_true_eq, decide_eq_false_iff_not, Bool.not_eq_true', Bool.not_eq_false', Bool.not_eq_true, Bool.not_eq_false, Int.not_lt, Int.not_le, Nat.not_lt, Nat.not_le, reduceCtorEq] at hq)))
  try any_goals (first | ((have hu := hv.leg (i := (i : Int) - 1) (by omega) (by omega); have hpr := hv.prod (i := (i : Int) - 1) (by omega) (by omega))) | skip)
  try any_goals (refine H_skip ?_)
  try any_goals (refine H_exit ?_)
  repeat (any_goals (first | refine G_exit_then ?_ | refine G_exit_here ?_ | refine G_exit_far rfl ?_))
  try any_goals (refine G_then ?_)
  try any_goals (refine H_seq ?_)
  try any_goals (refine H_block ?_)
  try any_goals (refine H_seq ?_)
  try any_goals (refine H_draw' (by kernel_rfl) (upC_cls hF) ?_)
  try any_goals (first | refine W_move (d := 19) wk_stepper rfl rfl rfl ?_)
  try any_goals (first | refine W_moveR (d := 20) wk_stepper (U := uS e1 pLeg xs) (fun w' h => IsS.up (Cls.ext h) hv0) rfl rfl rfl ?_ | refine W_move (d := 20) wk_stepper rfl rfl rfl ?_)
  try any_goals (first | refine W_move (d := 21) wk_stepper rfl rfl rfl ?_)
  try any_goals (first | refine W_ar (d := 22) wk_stepper rfl rfl rfl rfl rfl (by first | omega | (dsimp only; omega)) ?_)
  try any_goals (first | refine W_index (d := 23) wk_stepper (by kernel_rfl) rfl rfl rfl rfl (by first | omega | (dsimp only; omega)) ?_)
  try any_goals (first | refine W_fieldG (d := 24) wk_stepper (Proj.tail _ _ (Proj.tail _ _ (Proj.head _ _ _))) (by kernel_rfl) rfl rfl rfl ?_ | refine W_fieldRC (d := 24) 0 wk_stepper (Proj.tail _ _ (Proj.tail _ _ (Proj.head _ _ _))) hz0 (by kernel_rfl) rfl rfl rfl rfl ?_ | refine W_fieldRC (d := 24) 1 wk_stepper (Proj.tail _ _ (Proj.tail _ _ (Proj.head _ _ _))) hz0 (by kernel_rfl) rfl rfl rfl rfl ?_ | refine W_fieldC (d := 24) wk_stepper (off := 2) (by kernel_rfl) rfl rfl rfl ?_)
  try any_goals (first | refine W_loadI (d := 25) wk_stepper (by kernel_rfl) rfl rfl rfl ?_ | refine W_loadB (d := 25) wk_stepper (by kernel_rfl) rfl rfl rfl ?_ | refine W_loadStr (d := 25) wk_stepper (by kernel_rfl) rfl rfl rfl ?_ | refine W_loadS (d := 25) wk_stepper (by kernel_rfl) rfl rfl rfl ?_ | refine W_loadA (d := 25) wk_stepper (by kernel_rfl) rfl rfl rfl ?_)
  try any_goals (first | refine W_ar (d := 26) wk_stepper rfl rfl rfl rfl rfl (by first | omega | (dsimp only; omega)) ?_)
  try any_goals (first | refine W_fieldG (d := 27) wk_stepper (Proj.tail _ _ (Proj.tail _ _ (Proj.head _ _ _))) (by kernel_rfl) rfl rfl rfl ?_ | refine W_fieldRC (d := 27) 0 wk_stepper (Proj.tail _ _ (Proj.tail _ _ (Proj.head _ _ _))) hz0 (by kernel_rfl) rfl rfl rfl rfl ?_ | refine W_fieldRC (d := 27) 1 wk_stepper (Proj.tail _ _ (Proj.tail _ _ (Proj.head _ _ _))) hz0 (by kernel_rfl) rfl rfl rfl rfl ?_ | refine W_fieldC (d := 27) wk_stepper (off := 2) (by kernel_rfl) rfl rfl rfl ?_)
  try any_goals (first | refine W_loadI (d := 28) wk_stepper (by kernel_rfl) rfl rfl rfl ?_ | refine W_loadB (d := 28) wk_stepper (by kernel_rfl) rfl rfl rfl ?_ | refine W_loadStr (d := 28) wk_stepper (by kernel_rfl) rfl rfl rfl ?_ | refine W_loadS (d := 28) wk_stepper (by kernel_rfl) rfl rfl rfl ?_ | refine W_loadA (d := 28) wk_stepper (by kernel_rfl) rfl rfl rfl ?_)
  try any_goals (first | refine W_moveR (d := 29) wk_stepper (U := uS e2 pI p) (fun w' h => IsS.up (Cls.ext h) hv3) rfl rfl rfl ?_ | refine W_move (d := 29) wk_stepper rfl rfl rfl ?_)
  try any_goals (first | refine W_move (d := 30) wk_stepper rfl rfl rfl ?_)
  try any_goals (first | refine W_ar (d := 31) wk_stepper rfl rfl rfl rfl rfl (by first | omega | (dsimp only; omega)) ?_)
  try any_goals (first | refine W_index (d := 32) wk_stepper (by kernel_rfl) rfl rfl rfl rfl (by first | omega | (dsimp only; omega)) ?_)
  try any_goals (first | refine W_loadI (d := 33) wk_stepper (by kernel_rfl) rfl rfl rfl ?_ | refine W_loadB (d := 33) wk_stepper (by kernel_rfl) rfl rfl rfl ?_ | refine W_loadStr (d := 33) wk_stepper (by kernel_rfl) rfl rfl rfl ?_ | refine W_loadS (d := 33) wk_stepper (by kernel_rfl) rfl rfl rfl ?_ | refine W_loadA (d := 33) wk_stepper (by kernel_rfl) rfl rfl rfl ?_)
  try any_goals (first | refine W_ar (d := 34) wk_stepper rfl rfl rfl rfl rfl (by first | omega | (dsimp only; omega)) ?_)
  try any_goals (first | refine W_ar (d := 35) wk_stepper rfl rfl rfl rfl rfl (by first | omega | (dsimp only; omega)) ?_)
  try any_goals (first | refine W_fieldG (d := 36) wk_stepper (Proj.head _ _ _) (by kernel_rfl) rfl rfl rfl ?_ | refine W_fieldRC (d := 36) 0 wk_stepper (Proj.head _ _ _) hz0 (by kernel_rfl) rfl rfl rfl rfl ?_ | refine W_fieldRC (d := 36) 1 wk_stepper (Proj.head _ _ _) hz0 (by kernel_rfl) rfl rfl rfl rfl ?_ | refine W_fieldC (d := 36) wk_stepper (off := 0) (by kernel_rfl) rfl rfl rfl ?_)
  try any_goals (first | refine W_loadI (d := 37) wk_stepper (by kernel_rfl) rfl rfl rfl ?_ | refine W_loadB (d := 37) wk_stepper (by kernel_rfl) rfl rfl rfl ?_ | refine W_loadStr (d := 37) wk_stepper (by kernel_rfl) rfl rfl rfl ?_ | refine W_loadS (d := 37) wk_stepper (by kernel_rfl) rfl rfl rfl ?_ | refine W_loadA (d := 37) wk_stepper (by kernel_rfl) rfl rfl rfl ?_)
  try any_goals (first | refine W_ct (d := 38) wk_stepper (ct_l1Least _ _) rfl rfl rfl (by kernel_rfl) ?_)
  try any_goals (refine Wk_assign (by kernel_rfl) (by kernel_rfl) ?_)
  try any_goals (first | refine W_assign (d := 2) (sq_stepper (upC_cls hF)) rfl rfl rfl ?_)
  try any_goals (refine Sq_nil ?_)
  try any_goals (refine G_then ?_)
  try any_goals (refine H_reg ?_)
  try any_goals (first | refine W_move (d := 39) (sq_stepper (upC_cls hF)) rfl rfl rfl ?_)
  try any_goals (first | refine W_move (d := 40) (sq_stepper (upC_cls hF)) rfl rfl rfl ?_)
  try any_goals (first | refine W_buildS (d := 41) (sq_stepper (upC_cls hF)) [(Operand.tmp 40)] pI [_] (e := 3) (by kernel_rfl) (by kernel_rfl) rfl rfl (by kernel_rfl) rfl rfl rfl ⟨elem_I, trivial⟩ ?_)
  try any_goals (first | refine Sq_appendC (d := 42) 0 (Ψ := pI) hF (stF_ls trivial) trivial (by kernel_rfl) (by kernel_rfl) rfl rfl rfl rfl ⟨hcl, by omega, hcm, by simp only [List.length_cons, List.length_nil]; omega, Nat.zero_lt_one⟩ (fun ga ca csa news hga hca hcma hcla htk hF => ?_))
  try any_goals (first | refine W_assign (d := 9) (sq_stepper (upC_cls hF)) rfl rfl rfl ?_)
  try any_goals (refine Sq_nil ?_)
  repeat (any_goals (first | refine G_exit_then ?_ | refine G_exit_here ?_ | refine G_exit_far rfl ?_ | refine G_normal_block ?_))
  try any_goals (refine G_then ?_)
  try any_goals (refine H_reg ?_)
  try any_goals (first | refine W_move (d := 17) (sq_stepper (upC_cls hF)) rfl rfl rfl ?_)
  try any_goals (first | refine W_ar (d := 18) (sq_stepper (upC_cls hF)) rfl rfl rfl rfl rfl (by first | omega | (dsimp only; omega)) ?_)
  try any_goals (first | refine W_assign (d := 10) (sq_stepper (upC_cls hF)) rfl rfl rfl ?_)
  try any_goals (refine Sq_nil ?_)
  try any_goals (refine G_again (i + 1, _, some ga, ca, csa) ⟨by simp only; omega, by simp only; omega, ?_, hcla, hca, hcma, by simp⟩ (by simp only; omega) (by repeat (first | exact trivial | refine ⟨⟨_, rfl, fun _ _ _ h => h⟩, ?_⟩)) ?_)
  repeat (any_goals (first | refine G_exit_then ?_ | refine G_exit_here ?_ | refine G_exit_far rfl ?_ | refine G_normal_block ?_))
  try any_goals (refine G_then ?_)
  try any_goals (refine H_seq ?_)
  try any_goals (refine H_reg ?_)
  try any_goals (first | refine W_move (d := 43) (sq_stepper (upC_cls hF)) rfl rfl rfl ?_)
  try any_goals (first | refine W_assign (d := 8) (sq_stepper (upC_cls hF)) rfl rfl rfl ?_)
  try any_goals (refine Sq_nil ?_)
  try any_goals (refine G_then ?_)
  try any_goals (refine H_ret ?_)
  repeat (any_goals (first | refine G_ret_then ?_ | refine G_ret_block ?_))
  all_goals (try dsimp only)
  all_goals first
    | exact bef_next h0 hlev
    | exact fun w' h => h.fact fun hf => befs_app (bef_next h0 hlev) (by rw [hcl]; exact Nat.mul_le_mul_right _ hcc) hf.1 hf.2 htk
    | (refine R1 rfl (fun _ h => Cls.ext h) rfl (fun v w' hc hv => ?_)
       rw [show v = _ from hv]
       have e : i = xs.length := by omega
       subst e
       exact cls_OS (m := 0) hc hs rfl hc.fct befs_length.symm hcc hcm hcl (fun h => absurd h hA))
theorem ct_sBefore {e1 e2 : Option TypeId} (xs : List Leg) (b : Bat) (l : Int) (p : List Int) (hv : Val xs b l p) : CT Try.prog 63 [.inr (uS e1 pLeg xs), .inr (uA pBat b), .inl (.int .i64 l), .inr (uS e2 pI p)] (.inr (uS (some 3) pI (befs xs b l p xs.length))) :=
  (cg_sBefore xs b l p hv).ct fun s v w ⟨S, _, h⟩ => OS.isS h
theorem legs_bd {xs : List Leg} (h : legs xs = true) {i : Int} (h0 : 0 ≤ i) (h1 : i < xs.length) : (0 ≤ (ix xs i).F ∧ (ix xs i).F ≤ 1799) ∧ (0 ≤ (ix xs i).T ∧ (ix xs i).T ≤ 1799) := by
  have a1 := ((legs_t xs).1 h).2 i.toNat (by omega)
  rw [show ((i.toNat : Nat) : Int) = i by omega, legAt_t] at a1
  exact ⟨a1.1, a1.2.1⟩
theorem plAt_t (xs : List Leg) (p : List Int) (i : Int) : (plAt xs p i = true) = (0 ≤ ix p i ∧ ix p i ≤ (ix xs (i + 1)).F - (ix xs i).T) := by rw [plAt, inB_t]
theorem plOk_f1 {xs : List Leg} {p : List Int} (h : ¬ (p.length : Int) + 1 = xs.length) : plOk xs p = false := by
  cases hl : plOk xs p with
  | false => rfl
  | true => exact absurd ((plOk_t xs p).1 hl).1 h
theorem plOk_f2 {xs : List Leg} {p : List Int} {i : Int} (h0 : 0 ≤ i) (h1 : i < p.length) (h : ¬ plAt xs p i = true) : plOk xs p = false := by
  cases hl : plOk xs p with
  | false => rfl
  | true =>
    have := ((plOk_t xs p).1 hl).2 i.toNat (by omega)
    rw [show ((i.toNat : Nat) : Int) = i by omega] at this
    exact absurd this h
theorem CT_len2 {f : FuncId} {q : Pr} {ps : List Pr} {R : Pr} {α : Type} {e : Option TypeId} {Φ : Phi α} {xs : List α} (h : xs.length ≤ 9223372036854775807 → CT Try.prog f (q :: .inr (uS e Φ xs) :: ps) R) : CT Try.prog f (q :: .inr (uS e Φ xs) :: ps) R :=
  CT_fact (fun vs w hk => by
    match vs, hk with
    | u :: v :: vs, hk =>
      obtain ⟨A, n, c, hv, hn, hc, hm, _⟩ := (hk.2.1 : IsS e Φ xs v w)
      simp only [maxLen] at hm
      omega) h
theorem ct_sPlan {e1 e2 : Option TypeId} (xs : List Leg) (p : List Int) (hl : legs xs = true) : CT Try.prog 60 [.inr (uS e1 pLeg xs), .inr (uS e2 pI p)] (.inl (.bool (plOk xs p))) := by
  refine CT_len2 fun hlen => ?_
  refine CT_of Try.func60 rfl rfl rfl (fun w => ?_)
  have hC := upC_ext w
  have hx := ((legs_t xs).1 hl).1
  try any_goals (refine H_seq ?_)
  try any_goals (refine H_reg ?_)
  try any_goals (first | refine W_assign (d := 4) (sq_stepper hC) rfl rfl rfl ?_)
  try any_goals (refine Sq_nil ?_)
  try any_goals (refine G_then ?_)
  try any_goals (refine H_seq ?_)
  try any_goals (refine H_seq ?_)
  try any_goals (refine H_reg ?_)
  try any_goals (first | refine W_assign (d := 5) (sq_stepper hC) rfl rfl rfl ?_)
  try any_goals (refine Sq_nil ?_)
  try any_goals (refine G_then ?_)
  try any_goals (refine H_block ?_)
  try any_goals ((refine H_loop (fun i : Int => 0 ≤ i ∧ i ≤ p.length ∧ i < xs.length ∧ ∀ j : Nat, (j : Int) < i → plAt xs p j = true) (fun i => [(0, .inr (uS e1 pLeg xs)), (1, .inr (uS e2 pI p)), (5, .inl (.int .i64 i))]) (fun _ => Ext w) (fun i => (p.length - i).toNat) 0 ⟨by omega, by omega, by omega, fun j hj => by omega⟩ (fun a w h => h.sub (by repeat (first | exact trivial | refine ⟨⟨_, rfl, fun _ _ _ h => h⟩, ?_⟩)) fun _ h => h) (fun i hi => ?_); obtain ⟨h0, h1, h1x, hall⟩ := hi))
  try any_goals (refine H_seq ?_)
  try any_goals (refine H_seq ?_)
  try any_goals (refine H_reg ?_)
  try any_goals (first | refine W_move (d := 6) (sq_stepper hC) rfl rfl rfl ?_)
  try any_goals (first | refine W_move (d := 7) (sq_stepper hC) rfl rfl rfl ?_)
  try any_goals (first | refine W_len (d := 8) (sq_stepper hC) (by kernel_rfl) rfl rfl rfl ?_ | refine W_lenStr (d := 8) (sq_stepper hC) (by kernel_rfl) rfl rfl rfl ?_)
  try any_goals (first | refine W_cmp (d := 9) (sq_stepper hC) rfl rfl rfl rfl rfl ?_ | refine W_strcmp (d := 9) (sq_stepper hC) rfl rfl rfl rfl rfl ?_)
  try any_goals (first | refine W_move (d := 10) (sq_stepper hC) rfl rfl rfl ?_)
  try any_goals (first | refine W_skip (d := 11) (sq_stepper hC) rfl rfl ?_ | refine W_move (d := 11) (sq_stepper hC) rfl rfl rfl ?_ | (refine W_splitG (sq_stepper hC) _ rfl _ rfl (fun hq => ?_) (fun hq => ?_) <;> ((try simp only [eq_self, not_true_eq_false, not_false_eq_true, bne_self_eq_false, Bool.false_eq_true, Bool.true_eq_false, Bool.and_eq_true, Bool.or_eq_true, Bool.or_eq_false_iff, Bool.not_not, inB_t, inB_f, decide_eq_true_eq, decide_eq_false_iff_not, Bool.not_eq_true', Bool.not_eq_false', Bool.not_eq_true, Bool.not_eq_false, Int.not_lt, Int.not_le, Nat.not_lt, Nat.not_le, reduceCtorEq] at hq); try (have hq' := hq; clear hq)) <;> first | refine W_skip (d := 11) (sq_stepper hC) rfl rfl ?_ | refine W_move (d := 11) (sq_stepper hC) rfl rfl rfl ?_))
  try any_goals (first | refine W_skip (d := 12) (sq_stepper hC) rfl rfl ?_ | refine W_ar (d := 12) (sq_stepper hC) rfl rfl rfl rfl rfl (by first | omega | (dsimp only; omega)) ?_ | (refine W_splitG (sq_stepper hC) _ rfl _ rfl (fun hq => ?_) (fun hq => ?_) <;> ((try simp only [eq_self, not_true_eq_false, not_false_eq_true, bne_self_eq_false, Bool.false_eq_true, Bool.true_eq_false, Bool.and_eq_true, Bool.or_eq_true, Bool.or_eq_false_iff, Bool.not_not, inB_t, inB_f, decide_eq_true_eq, decide_eq_false_iff_not, Bool.not_eq_true', Bool.not_eq_false', Bool.not_eq_true, Bool.not_eq_false, Int.not_lt, Int.not_le, Nat.not_lt, Nat.not_le, reduceCtorEq] at hq); try (have hq' := hq; clear hq)) <;> first | refine W_skip (d := 12) (sq_stepper hC) rfl rfl ?_ | refine W_ar (d := 12) (sq_stepper hC) rfl rfl rfl rfl rfl (by first | omega | (dsimp only; omega)) ?_))
  try any_goals (first | refine W_skip (d := 13) (sq_stepper hC) rfl rfl ?_ | refine W_move (d := 13) (sq_stepper hC) rfl rfl rfl ?_ | (refine W_splitG (sq_stepper hC) _ rfl _ rfl (fun hq => ?_) (fun hq => ?_) <;> ((try simp only [eq_self, not_true_eq_false, not_false_eq_true, bne_self_eq_false, Bool.false_eq_true, Bool.true_eq_false, Bool.and_eq_true, Bool.or_eq_true, Bool.or_eq_false_iff, Bool.not_not, inB_t, inB_f, decide_eq_true_eq, decide_eq_false_iff_not, Bool.not_eq_true', Bool.not_eq_false', Bool.not_eq_true, Bool.not_eq_false, Int.not_lt, Int.not_le, Nat.not_lt, Nat.not_le, reduceCtorEq] at hq); try (have hq' := hq; clear hq)) <;> first | refine W_skip (d := 13) (sq_stepper hC) rfl rfl ?_ | refine W_move (d := 13) (sq_stepper hC) rfl rfl rfl ?_))
  try any_goals (first | refine W_skip (d := 14) (sq_stepper hC) rfl rfl ?_ | refine W_len (d := 14) (sq_stepper hC) (by kernel_rfl) rfl rfl rfl ?_ | refine W_lenStr (d := 14) (sq_stepper hC) (by kernel_rfl) rfl rfl rfl ?_ | (refine W_splitG (sq_stepper hC) _ rfl _ rfl (fun hq => ?_) (fun hq => ?_) <;> ((try simp only [eq_self, not_true_eq_false, not_false_eq_true, bne_self_eq_false, Bool.false_eq_true, Bool.true_eq_false, Bool.and_eq_true, Bool.or_eq_true, Bool.or_eq_false_iff, Bool.not_not, inB_t, inB_f, decide_eq_true_eq, decide_eq_false_iff_not, Bool.not_eq_true', Bool.not_eq_false', Bool.not_eq_true, Bool.not_eq_false, Int.not_lt, Int.not_le, Nat.not_lt, Nat.not_le, reduceCtorEq] at hq); try (have hq' := hq; clear hq)) <;> first | refine W_skip (d := 14) (sq_stepper hC) rfl rfl ?_ | refine W_len (d := 14) (sq_stepper hC) (by kernel_rfl) rfl rfl rfl ?_ | refine W_lenStr (d := 14) (sq_stepper hC) (by kernel_rfl) rfl rfl rfl ?_))
  try any_goals (first | refine W_skip (d := 15) (sq_stepper hC) rfl rfl ?_ | refine W_cmp (d := 15) (sq_stepper hC) rfl rfl rfl rfl rfl ?_ | refine W_strcmp (d := 15) (sq_stepper hC) rfl rfl rfl rfl rfl ?_ | (refine W_splitG (sq_stepper hC) _ rfl _ rfl (fun hq => ?_) (fun hq => ?_) <;> ((try simp only [eq_self, not_true_eq_false, not_false_eq_true, bne_self_eq_false, Bool.false_eq_true, Bool.true_eq_false, Bool.and_eq_true, Bool.or_eq_true, Bool.or_eq_false_iff, Bool.not_not, inB_t, inB_f, decide_eq_true_eq, decide_eq_false_iff_not, Bool.not_eq_true', Bool.not_eq_false', Bool.not_eq_true, Bool.not_eq_false, Int.not_lt, Int.not_le, Nat.not_lt, Nat.not_le, reduceCtorEq] at hq); try (have hq' := hq; clear hq)) <;> first | refine W_skip (d := 15) (sq_stepper hC) rfl rfl ?_ | refine W_cmp (d := 15) (sq_stepper hC) rfl rfl rfl rfl rfl ?_ | refine W_strcmp (d := 15) (sq_stepper hC) rfl rfl rfl rfl rfl ?_))
  try any_goals (first | refine W_pickT (d := 16) (sq_stepper hC) rfl rfl rfl rfl ?_ | refine W_pickF (d := 16) (sq_stepper hC) rfl rfl rfl rfl ?_)
  try any_goals (refine Sq_nil ?_)
  try any_goals (refine G_then ?_)
  try any_goals (first | refine H_condT rfl ?_ | refine H_condF rfl ?_ | (refine H_cond _ rfl (fun hq => ?_) (fun hq => ?_) <;> (try simp only [eq_self, not_true_eq_false, not_false_eq_true, bne_self_eq_false, Bool.false_eq_true, Bool.true_eq_false, Bool.and_eq_true, Bool.or_eq_true, Bool.or_eq_false_iff, Bool.not_not, inB_t, inB_f, decide_eq_true_eq, decide_eq_false_iff_not, Bool.not_eq_true', Bool.not_eq_false', Bool.not_eq_true, Bool.not_eq_false, Int.not_lt, Int.not_le, Nat.not_lt, Nat.not_le, reduceCtorEq] at hq)))
  try any_goals (first | ((have b1 := legs_bd hl (i := i) (by omega) (by omega); have b2 := legs_bd hl (i := i + 1) (by omega) (by omega))) | skip)
  try any_goals (refine H_skip ?_)
  try any_goals (refine H_exit ?_)
  repeat (any_goals (first | refine G_exit_then ?_ | refine G_exit_here ?_ | refine G_exit_far rfl ?_))
  try any_goals (refine G_then ?_)
  try any_goals (refine H_seq ?_)
  try any_goals (refine H_block ?_)
  try any_goals (refine H_seq ?_)
  try any_goals (refine H_draw' (by kernel_rfl) hC ?_)
  try any_goals (first | refine W_move (d := 19) wk_stepper rfl rfl rfl ?_)
  try any_goals (first | refine W_move (d := 20) wk_stepper rfl rfl rfl ?_)
  try any_goals (first | refine W_index (d := 21) wk_stepper (by kernel_rfl) rfl rfl rfl rfl (by first | omega | (dsimp only; omega)) ?_)
  try any_goals (first | refine W_loadI (d := 22) wk_stepper (by kernel_rfl) rfl rfl rfl ?_ | refine W_loadB (d := 22) wk_stepper (by kernel_rfl) rfl rfl rfl ?_ | refine W_loadStr (d := 22) wk_stepper (by kernel_rfl) rfl rfl rfl ?_ | refine W_loadS (d := 22) wk_stepper (by kernel_rfl) rfl rfl rfl ?_ | refine W_loadA (d := 22) wk_stepper (by kernel_rfl) rfl rfl rfl ?_)
  try any_goals (first | refine W_move (d := 23) wk_stepper rfl rfl rfl ?_)
  try any_goals (first | refine W_move (d := 24) wk_stepper rfl rfl rfl ?_)
  try any_goals (first | refine W_ar (d := 25) wk_stepper rfl rfl rfl rfl rfl (by first | omega | (dsimp only; omega)) ?_)
  try any_goals (first | refine W_index (d := 26) wk_stepper (by kernel_rfl) rfl rfl rfl rfl (by first | omega | (dsimp only; omega)) ?_)
  try any_goals (first | refine W_fieldG (d := 27) wk_stepper (Proj.head _ _ _) (by kernel_rfl) rfl rfl rfl ?_ | refine W_fieldC (d := 27) wk_stepper (off := 0) (by kernel_rfl) rfl rfl rfl ?_)
  try any_goals (first | refine W_loadI (d := 28) wk_stepper (by kernel_rfl) rfl rfl rfl ?_ | refine W_loadB (d := 28) wk_stepper (by kernel_rfl) rfl rfl rfl ?_ | refine W_loadStr (d := 28) wk_stepper (by kernel_rfl) rfl rfl rfl ?_ | refine W_loadS (d := 28) wk_stepper (by kernel_rfl) rfl rfl rfl ?_ | refine W_loadA (d := 28) wk_stepper (by kernel_rfl) rfl rfl rfl ?_)
  try any_goals (first | refine W_move (d := 29) wk_stepper rfl rfl rfl ?_)
  try any_goals (first | refine W_move (d := 30) wk_stepper rfl rfl rfl ?_)
  try any_goals (first | refine W_index (d := 31) wk_stepper (by kernel_rfl) rfl rfl rfl rfl (by first | omega | (dsimp only; omega)) ?_)
  try any_goals (first | refine W_fieldG (d := 32) wk_stepper (Proj.tail _ _ (Proj.head _ _ _)) (by kernel_rfl) rfl rfl rfl ?_ | refine W_fieldC (d := 32) wk_stepper (off := 1) (by kernel_rfl) rfl rfl rfl ?_)
  try any_goals (first | refine W_loadI (d := 33) wk_stepper (by kernel_rfl) rfl rfl rfl ?_ | refine W_loadB (d := 33) wk_stepper (by kernel_rfl) rfl rfl rfl ?_ | refine W_loadStr (d := 33) wk_stepper (by kernel_rfl) rfl rfl rfl ?_ | refine W_loadS (d := 33) wk_stepper (by kernel_rfl) rfl rfl rfl ?_ | refine W_loadA (d := 33) wk_stepper (by kernel_rfl) rfl rfl rfl ?_)
  try any_goals (first | refine W_ar (d := 34) wk_stepper rfl rfl rfl rfl rfl (by first | omega | (dsimp only; omega)) ?_)
  try any_goals (first | refine W_ct (d := 35) wk_stepper (ct_l1In _ _ _) rfl rfl rfl (by kernel_rfl) ?_)
  try any_goals (first | refine W_not (d := 36) wk_stepper rfl rfl rfl ?_)
  try any_goals (refine Wk_end (by kernel_rfl) (by kernel_rfl) ?_)
  try any_goals (refine G_then ?_)
  try any_goals (first | refine H_condT rfl ?_ | refine H_condF rfl ?_ | (refine H_cond _ rfl (fun hq => ?_) (fun hq => ?_) <;> (try simp only [eq_self, not_true_eq_false, not_false_eq_true, bne_self_eq_false, Bool.false_eq_true, Bool.true_eq_false, Bool.and_eq_true, Bool.or_eq_true, Bool.or_eq_false_iff, Bool.not_not, inB_t, inB_f, decide_eq_true_eq, decide_eq_false_iff_not, Bool.not_eq_true', Bool.not_eq_false', Bool.not_eq_true, Bool.not_eq_false, Int.not_lt, Int.not_le, Nat.not_lt, Nat.not_le, reduceCtorEq] at hq)))
  try any_goals (first | ((have b1 := legs_bd hl (i := i) (by omega) (by omega); have b2 := legs_bd hl (i := i + 1) (by omega) (by omega))) | skip)
  try any_goals (refine H_seq ?_)
  try any_goals (refine H_reg ?_)
  try any_goals (first | refine W_assign (d := 4) (sq_stepper hC) rfl rfl rfl ?_)
  try any_goals (refine Sq_nil ?_)
  try any_goals (refine G_then ?_)
  try any_goals (refine H_ret ?_)
  repeat (any_goals (first | refine G_ret_then ?_ | refine G_ret_block ?_))
  try any_goals (refine H_skip ?_)
  repeat (any_goals (first | refine G_exit_then ?_ | refine G_exit_here ?_ | refine G_exit_far rfl ?_ | refine G_normal_block ?_))
  try any_goals (refine G_then ?_)
  try any_goals (refine H_reg ?_)
  try any_goals (first | refine W_move (d := 17) (sq_stepper hC) rfl rfl rfl ?_)
  try any_goals (first | refine W_ar (d := 18) (sq_stepper hC) rfl rfl rfl rfl rfl (by first | omega | (dsimp only; omega)) ?_)
  try any_goals (first | refine W_assign (d := 5) (sq_stepper hC) rfl rfl rfl ?_)
  try any_goals (refine Sq_nil ?_)
  try any_goals (refine G_again (i + 1) ⟨by omega, by omega, by omega, all_step (p := plAt xs p) h0 hall (by rw [plAt_t]; exact hq)⟩ (by omega) (by repeat (first | exact trivial | refine ⟨⟨_, rfl, fun _ _ _ h => h⟩, ?_⟩)) (fun _ h => h))
  repeat (any_goals (first | refine G_exit_then ?_ | refine G_exit_here ?_ | refine G_exit_far rfl ?_ | refine G_normal_block ?_))
  try any_goals (refine G_then ?_)
  try any_goals (refine H_seq ?_)
  try any_goals (refine H_reg ?_)
  try any_goals (first | refine W_move (d := 37) (sq_stepper hC) rfl rfl rfl ?_)
  try any_goals (first | refine W_len (d := 38) (sq_stepper hC) (by kernel_rfl) rfl rfl rfl ?_ | refine W_lenStr (d := 38) (sq_stepper hC) (by kernel_rfl) rfl rfl rfl ?_)
  try any_goals (first | refine W_move (d := 39) (sq_stepper hC) rfl rfl rfl ?_)
  try any_goals (first | refine W_len (d := 40) (sq_stepper hC) (by kernel_rfl) rfl rfl rfl ?_ | refine W_lenStr (d := 40) (sq_stepper hC) (by kernel_rfl) rfl rfl rfl ?_)
  try any_goals (first | refine W_ar (d := 41) (sq_stepper hC) rfl rfl rfl rfl rfl (by first | omega | (dsimp only; omega)) ?_)
  try any_goals (first | refine W_cmp (d := 42) (sq_stepper hC) rfl rfl rfl rfl rfl ?_ | refine W_eqlStr (d := 42) (sq_stepper hC) rfl rfl rfl rfl ?_ | refine W_eqlB (d := 42) (sq_stepper hC) rfl rfl Try.underlying4 rfl rfl ?_)
  try any_goals (first | refine W_assign (d := 4) (sq_stepper hC) rfl rfl rfl ?_)
  try any_goals (refine Sq_nil ?_)
  try any_goals (refine G_then ?_)
  try any_goals (refine H_ret ?_)
  repeat (any_goals (first | refine G_ret_then ?_ | refine G_ret_block ?_))
  all_goals first
    | exact R1v rfl (fun _ h => h) rfl (congrArg Value.bool (plOk_f2 h0 (by omega) (fun h => by rw [plAt_t] at h; omega)).symm)
    | (refine R1v rfl (fun _ h => h) rfl (congrArg Value.bool ?_)
       by_cases hw : (p.length : Int) = xs.length - 1
       · rw [decide_eq_true hw]; exact ((plOk_t xs p).2 ⟨by omega, fun j hj => hall j (by omega)⟩).symm
       · rw [decide_eq_false hw]; exact (plOk_f1 (by omega)).symm)
theorem ct_break {e : Option TypeId} (xs : List Leg) (i : Int) (hl : legs xs = true) (hi : 1 ≤ i ∧ i < xs.length) : CT Try.prog 58 [.inr (uS e pLeg xs), .inl (.int .i64 i)] (.inl (.int .i64 ((ix xs i).F - (ix xs (i - 1)).T))) := by
  refine CT_of Try.func58 rfl rfl rfl (fun w => ?_)
  have hC := upC_ext w
  have hx := ((legs_t xs).1 hl).1
  have b1 := legs_bd hl (i := i) (by omega) (by omega)
  have b2 := legs_bd hl (i := i - 1) (by omega) (by omega)
  try any_goals (refine H_seq ?_)
  try any_goals (refine H_reg ?_)
  try any_goals (first | refine W_assign (d := 4) (sq_stepper hC) rfl rfl rfl ?_)
  try any_goals (refine Sq_nil ?_)
  try any_goals (refine G_then ?_)
  try any_goals (refine H_seq ?_)
  try any_goals (refine H_draw' (by kernel_rfl) hC ?_)
  try any_goals (first | refine W_move (d := 5) wk_stepper rfl rfl rfl ?_)
  try any_goals (first | refine W_move (d := 6) wk_stepper rfl rfl rfl ?_)
  try any_goals (first | refine W_index (d := 7) wk_stepper (by kernel_rfl) rfl rfl rfl rfl (by first | omega | (dsimp only; omega)) ?_)
  try any_goals (first | refine W_fieldG (d := 8) wk_stepper (Proj.head _ _ _) (by kernel_rfl) rfl rfl rfl ?_ | refine W_fieldC (d := 8) wk_stepper (off := 0) (by kernel_rfl) rfl rfl rfl ?_)
  try any_goals (first | refine W_loadI (d := 9) wk_stepper (by kernel_rfl) rfl rfl rfl ?_ | refine W_loadB (d := 9) wk_stepper (by kernel_rfl) rfl rfl rfl ?_ | refine W_loadStr (d := 9) wk_stepper (by kernel_rfl) rfl rfl rfl ?_ | refine W_loadS (d := 9) wk_stepper (by kernel_rfl) rfl rfl rfl ?_ | refine W_loadA (d := 9) wk_stepper (by kernel_rfl) rfl rfl rfl ?_)
  try any_goals (first | refine W_move (d := 10) wk_stepper rfl rfl rfl ?_)
  try any_goals (first | refine W_move (d := 11) wk_stepper rfl rfl rfl ?_)
  try any_goals (first | refine W_ar (d := 12) wk_stepper rfl rfl rfl rfl rfl (by first | omega | (dsimp only; omega)) ?_)
  try any_goals (first | refine W_index (d := 13) wk_stepper (by kernel_rfl) rfl rfl rfl rfl (by first | omega | (dsimp only; omega)) ?_)
  try any_goals (first | refine W_fieldG (d := 14) wk_stepper (Proj.tail _ _ (Proj.head _ _ _)) (by kernel_rfl) rfl rfl rfl ?_ | refine W_fieldC (d := 14) wk_stepper (off := 1) (by kernel_rfl) rfl rfl rfl ?_)
  try any_goals (first | refine W_loadI (d := 15) wk_stepper (by kernel_rfl) rfl rfl rfl ?_ | refine W_loadB (d := 15) wk_stepper (by kernel_rfl) rfl rfl rfl ?_ | refine W_loadStr (d := 15) wk_stepper (by kernel_rfl) rfl rfl rfl ?_ | refine W_loadS (d := 15) wk_stepper (by kernel_rfl) rfl rfl rfl ?_ | refine W_loadA (d := 15) wk_stepper (by kernel_rfl) rfl rfl rfl ?_)
  try any_goals (first | refine W_ar (d := 16) wk_stepper rfl rfl rfl rfl rfl (by first | omega | (dsimp only; omega)) ?_)
  try any_goals (refine Wk_assign (by kernel_rfl) (by kernel_rfl) ?_)
  try any_goals (first | refine W_assign (d := 4) (sq_stepper hC) rfl rfl rfl ?_)
  try any_goals (refine Sq_nil ?_)
  try any_goals (refine G_then ?_)
  try any_goals (refine H_ret ?_)
  repeat (any_goals (first | refine G_ret_then ?_ | refine G_ret_block ?_))
  all_goals exact R1v rfl (fun _ h => h) rfl rfl
theorem ct_iPlan {e1 e2 : Option TypeId} (xs : List Leg) (p : List Int) (hl : legs xs = true) : CT Try.prog 64 [.inr (uS e1 pLeg xs), .inr (uS e2 pI p)] (.inl (.bool (plOk xs p))) := by
  refine CT_len2 fun hlen => ?_
  refine CT_of Try.func64 rfl rfl rfl (fun w => ?_)
  have hC := upC_ext w
  have hx := ((legs_t xs).1 hl).1
  try any_goals (refine H_seq ?_)
  try any_goals (refine H_reg ?_)
  try any_goals (first | refine W_assign (d := 4) (sq_stepper hC) rfl rfl rfl ?_)
  try any_goals (refine Sq_nil ?_)
  try any_goals (refine G_then ?_)
  try any_goals (refine H_seq ?_)
  try any_goals (refine H_seq ?_)
  try any_goals (refine H_reg ?_)
  try any_goals (first | refine W_move (d := 7) (sq_stepper hC) rfl rfl rfl ?_)
  try any_goals (first | refine W_len (d := 8) (sq_stepper hC) (by kernel_rfl) rfl rfl rfl ?_ | refine W_lenStr (d := 8) (sq_stepper hC) (by kernel_rfl) rfl rfl rfl ?_)
  try any_goals (first | refine W_move (d := 9) (sq_stepper hC) rfl rfl rfl ?_)
  try any_goals (first | refine W_len (d := 10) (sq_stepper hC) (by kernel_rfl) rfl rfl rfl ?_ | refine W_lenStr (d := 10) (sq_stepper hC) (by kernel_rfl) rfl rfl rfl ?_)
  try any_goals (first | refine W_ar (d := 11) (sq_stepper hC) rfl rfl rfl rfl rfl (by first | omega | (dsimp only; omega)) ?_)
  try any_goals (first | refine W_cmp (d := 12) (sq_stepper hC) rfl rfl rfl rfl rfl ?_ | refine W_neqStr (d := 12) (sq_stepper hC) rfl rfl rfl rfl ?_ | refine W_neqB (d := 12) (sq_stepper hC) rfl rfl Try.underlying4 rfl rfl ?_)
  try any_goals (refine Sq_nil ?_)
  try any_goals (refine G_then ?_)
  try any_goals (first | refine H_condT rfl ?_ | refine H_condF rfl ?_ | (refine H_cond _ rfl (fun hq => ?_) (fun hq => ?_) <;> (try simp only [eq_self, not_true_eq_false, not_false_eq_true, bne_self_eq_false, Bool.false_eq_true, Bool.true_eq_false, Bool.and_eq_true, Bool.or_eq_true, Bool.or_eq_false_iff, Bool.not_not, inB_t, inB_f, decide_eq_true_eq, decide_eq_false_iff_not, Bool.not_eq_true', Bool.not_eq_false', Bool.not_eq_true, Bool.not_eq_false, Int.not_lt, Int.not_le, Nat.not_lt, Nat.not_le, reduceCtorEq] at hq)))
  try any_goals (refine H_seq ?_)
  try any_goals (refine H_reg ?_)
  try any_goals (first | refine W_assign (d := 4) (sq_stepper hC) rfl rfl rfl ?_)
  try any_goals (refine Sq_nil ?_)
  try any_goals (refine G_then ?_)
  try any_goals (refine H_ret ?_)
  repeat (any_goals (first | refine G_ret_then ?_ | refine G_ret_block ?_))
  try any_goals (refine H_skip ?_)
  try any_goals (refine G_then ?_)
  try any_goals (refine H_seq ?_)
  try any_goals (refine H_seq ?_)
  try any_goals (refine H_reg ?_)
  try any_goals (first | refine W_move (d := 13) (sq_stepper hC) rfl rfl rfl ?_)
  try any_goals (first | refine W_len (d := 14) (sq_stepper hC) (by kernel_rfl) rfl rfl rfl ?_ | refine W_lenStr (d := 14) (sq_stepper hC) (by kernel_rfl) rfl rfl rfl ?_)
  try any_goals (first | refine W_move (d := 15) (sq_stepper hC) rfl rfl rfl ?_)
  try any_goals (refine Sq_nil ?_)
  try any_goals (refine G_then ?_)
  try any_goals (refine H_block ?_)
  try any_goals ((refine H_loop (fun i : Int => 0 ≤ i ∧ i ≤ p.length ∧ i < xs.length ∧ ∀ j : Nat, (j : Int) < i → plAt xs p j = true) (fun i => [(0, .inr (uS e1 pLeg xs)), (13, .inr (uS e2 pI p)), (14, .inl (.int .i64 p.length)), (15, .inl (.int .i64 i))]) (fun _ => Ext w) (fun i => (p.length - i).toNat) 0 ⟨by omega, by omega, by omega, fun j hj => by omega⟩ (fun a w h => h.sub (by repeat (first | exact trivial | refine ⟨⟨_, rfl, fun _ _ _ h => h⟩, ?_⟩)) fun _ h => h) (fun i hi => ?_); obtain ⟨h0, h1, h1x, hall⟩ := hi))
  try any_goals (refine H_seq ?_)
  try any_goals (refine H_reg ?_)
  try any_goals (first | refine W_cmp (d := 16) (sq_stepper hC) rfl rfl rfl rfl rfl ?_ | refine W_strcmp (d := 16) (sq_stepper hC) rfl rfl rfl rfl rfl ?_)
  try any_goals (refine Sq_nil ?_)
  try any_goals (refine G_then ?_)
  try any_goals (refine H_seq ?_)
  try any_goals (first | refine H_condT rfl ?_ | refine H_condF rfl ?_ | (refine H_cond _ rfl (fun hq => ?_) (fun hq => ?_) <;> (try simp only [eq_self, not_true_eq_false, not_false_eq_true, bne_self_eq_false, Bool.false_eq_true, Bool.true_eq_false, Bool.and_eq_true, Bool.or_eq_true, Bool.or_eq_false_iff, Bool.not_not, inB_t, inB_f, decide_eq_true_eq, decide_eq_false_iff_not, Bool.not_eq_true', Bool.not_eq_false', Bool.not_eq_true, Bool.not_eq_false, Int.not_lt, Int.not_le, Nat.not_lt, Nat.not_le, reduceCtorEq] at hq)))
  try any_goals (refine H_skip ?_)
  try any_goals (refine H_exit ?_)
  repeat (any_goals (first | refine G_exit_then ?_ | refine G_exit_here ?_ | refine G_exit_far rfl ?_))
  try any_goals (refine G_then ?_)
  try any_goals (refine H_seq ?_)
  try any_goals (refine H_block ?_)
  try any_goals (refine H_seq ?_)
  try any_goals (refine H_reg ?_)
  try any_goals (first | refine W_move (d := 17) (sq_stepper hC) rfl rfl rfl ?_)
  try any_goals (first | refine W_index (d := 18) (sq_stepper hC) (by kernel_rfl) rfl rfl rfl rfl (by first | omega | (dsimp only; omega)) ?_)
  try any_goals (first | refine W_loadI (d := 19) (sq_stepper hC) (by kernel_rfl) rfl rfl rfl ?_ | refine W_loadB (d := 19) (sq_stepper hC) (by kernel_rfl) rfl rfl rfl ?_ | refine W_loadStr (d := 19) (sq_stepper hC) (by kernel_rfl) rfl rfl rfl ?_ | refine W_loadS (d := 19) (sq_stepper hC) (by kernel_rfl) rfl rfl rfl ?_ | refine W_loadA (d := 19) (sq_stepper hC) (by kernel_rfl) rfl rfl rfl ?_)
  try any_goals (first | refine W_assign (d := 5) (sq_stepper hC) rfl rfl rfl ?_)
  try any_goals (first | refine W_assign (d := 6) (sq_stepper hC) rfl rfl rfl ?_)
  try any_goals (refine Sq_nil ?_)
  try any_goals (refine G_then ?_)
  try any_goals (refine H_seq ?_)
  try any_goals (refine H_reg ?_)
  try any_goals (first | refine W_move (d := 20) (sq_stepper hC) rfl rfl rfl ?_)
  try any_goals (first | refine W_move (d := 21) (sq_stepper hC) rfl rfl rfl ?_)
  try any_goals (first | refine W_move (d := 22) (sq_stepper hC) rfl rfl rfl ?_)
  try any_goals (first | refine W_ar (d := 23) (sq_stepper hC) rfl rfl rfl rfl rfl (by first | omega | (dsimp only; omega)) ?_)
  try any_goals (first | refine W_ct (d := 24) (sq_stepper hC) (ct_break _ _ hl (by omega)) rfl rfl rfl (by kernel_rfl) ?_)
  try any_goals (first | refine W_ct (d := 25) (sq_stepper hC) (ct_within _ _ _) rfl rfl rfl (by kernel_rfl) ?_)
  try any_goals (first | refine W_not (d := 26) (sq_stepper hC) rfl rfl rfl ?_)
  try any_goals (refine Sq_nil ?_)
  try any_goals (refine G_then ?_)
  try any_goals (first | refine H_condT rfl ?_ | refine H_condF rfl ?_ | (refine H_cond _ rfl (fun hq => ?_) (fun hq => ?_) <;> (try simp only [eq_self, not_true_eq_false, not_false_eq_true, bne_self_eq_false, Bool.false_eq_true, Bool.true_eq_false, Bool.and_eq_true, Bool.or_eq_true, Bool.or_eq_false_iff, Bool.not_not, inB_t, inB_f, decide_eq_true_eq, decide_eq_false_iff_not, Bool.not_eq_true', Bool.not_eq_false', Bool.not_eq_true, Bool.not_eq_false, Int.not_lt, Int.not_le, Nat.not_lt, Nat.not_le, reduceCtorEq] at hq)))
  try any_goals (refine H_seq ?_)
  try any_goals (refine H_reg ?_)
  try any_goals (first | refine W_assign (d := 4) (sq_stepper hC) rfl rfl rfl ?_)
  try any_goals (refine Sq_nil ?_)
  try any_goals (refine G_then ?_)
  try any_goals (refine H_ret ?_)
  repeat (any_goals (first | refine G_ret_then ?_ | refine G_ret_block ?_))
  try any_goals (refine H_skip ?_)
  repeat (any_goals (first | refine G_exit_then ?_ | refine G_exit_here ?_ | refine G_exit_far rfl ?_ | refine G_normal_block ?_))
  try any_goals (refine G_then ?_)
  try any_goals (refine H_reg ?_)
  try any_goals (first | refine W_ar (d := 27) (sq_stepper hC) rfl rfl rfl rfl rfl (by first | omega | (dsimp only; omega)) ?_)
  try any_goals (first | refine W_move (d := 15) (sq_stepper hC) rfl rfl rfl ?_)
  try any_goals (refine Sq_nil ?_)
  try any_goals (refine G_again (i + 1) ⟨by omega, by omega, by omega, all_step (p := plAt xs p) h0 hall (by rw [plAt_t]; rw [show i + 1 - 1 = i by omega] at hq; exact hq)⟩ (by omega) (by repeat (first | exact trivial | refine ⟨⟨_, rfl, fun _ _ _ h => h⟩, ?_⟩)) (fun _ h => h))
  repeat (any_goals (first | refine G_exit_then ?_ | refine G_exit_here ?_ | refine G_exit_far rfl ?_ | refine G_normal_block ?_))
  try any_goals (refine G_then ?_)
  try any_goals (refine H_seq ?_)
  try any_goals (refine H_reg ?_)
  try any_goals (first | refine W_assign (d := 4) (sq_stepper hC) rfl rfl rfl ?_)
  try any_goals (refine Sq_nil ?_)
  try any_goals (refine G_then ?_)
  try any_goals (refine H_ret ?_)
  repeat (any_goals (first | refine G_ret_then ?_ | refine G_ret_block ?_))
  all_goals first
    | exact R1v rfl (fun _ h => h) rfl (congrArg Value.bool (plOk_f1 (by omega)).symm)
    | exact R1v rfl (fun _ h => h) rfl (congrArg Value.bool (plOk_f2 h0 (by omega) (fun h => by rw [plAt_t] at h; rw [show i + 1 - 1 = i by omega] at hq; omega)).symm)
    | exact R1v rfl (fun _ h => h) rfl (congrArg Value.bool ((plOk_t xs p).2 ⟨by omega, fun j hj => hall j (by omega)⟩).symm)
    | skip
def chg (b : Bat) (l m : Int) : Int := if b.C ≤ l then l else min (l + b.G * m) b.C
theorem ct_charge (b : Bat) (l m : Int) (hb : 0 ≤ b.G * m ∧ b.G * m ≤ 1799000) (hl : -200000 ≤ l ∧ l ≤ 10000) : CT Try.prog 59 [.inr (uA pBat b), .inl (.int .i64 l), .inl (.int .i64 m)] (.inl (.int .i64 (chg b l m))) := by
  refine CT_of Try.func59 rfl rfl rfl (fun w => ?_)
  have hC := upC_ext w
  try any_goals (refine H_seq ?_)
  try any_goals (refine H_reg ?_)
  try any_goals (first | refine W_boxA (d := 3) (sq_stepper hC) rfl rfl rfl ?_)
  try any_goals (first | refine W_assign (d := 6) (sq_stepper hC) rfl rfl rfl ?_)
  try any_goals (refine Sq_nil ?_)
  try any_goals (refine G_then ?_)
  try any_goals (refine H_seq ?_)
  try any_goals (refine H_seq ?_)
  try any_goals (refine H_reg ?_)
  try any_goals (first | refine W_move (d := 7) (sq_stepper hC) rfl rfl rfl ?_)
  try any_goals (first | refine W_fieldG (d := 8) (sq_stepper hC) (Proj.head _ _ _) (by kernel_rfl) rfl rfl rfl ?_ | refine W_fieldC (d := 8) (sq_stepper hC) (off := 0) (by kernel_rfl) rfl rfl rfl ?_)
  try any_goals (first | refine W_loadI (d := 9) (sq_stepper hC) (by kernel_rfl) rfl rfl rfl ?_ | refine W_loadB (d := 9) (sq_stepper hC) (by kernel_rfl) rfl rfl rfl ?_ | refine W_loadStr (d := 9) (sq_stepper hC) (by kernel_rfl) rfl rfl rfl ?_ | refine W_loadS (d := 9) (sq_stepper hC) (by kernel_rfl) rfl rfl rfl ?_ | refine W_loadA (d := 9) (sq_stepper hC) (by kernel_rfl) rfl rfl rfl ?_)
  try any_goals (first | refine W_cmp (d := 10) (sq_stepper hC) rfl rfl rfl rfl rfl ?_ | refine W_strcmp (d := 10) (sq_stepper hC) rfl rfl rfl rfl rfl ?_)
  try any_goals (refine Sq_nil ?_)
  try any_goals (refine G_then ?_)
  try any_goals (first | refine H_condT rfl ?_ | refine H_condF rfl ?_ | (refine H_cond _ rfl (fun hq => ?_) (fun hq => ?_) <;> (try simp only [eq_self, not_true_eq_false, not_false_eq_true, bne_self_eq_false, Bool.false_eq_true, Bool.true_eq_false, Bool.and_eq_true, Bool.or_eq_true, Bool.or_eq_false_iff, Bool.not_not, inB_t, inB_f, decide_eq_true_eq, decide_eq_false_iff_not, Bool.not_eq_true', Bool.not_eq_false', Bool.not_eq_true, Bool.not_eq_false, Int.not_lt, Int.not_le, Nat.not_lt, Nat.not_le, reduceCtorEq] at hq)))
  try any_goals (refine H_seq ?_)
  try any_goals (refine H_reg ?_)
  try any_goals (first | refine W_move (d := 11) (sq_stepper hC) rfl rfl rfl ?_)
  try any_goals (first | refine W_assign (d := 6) (sq_stepper hC) rfl rfl rfl ?_)
  try any_goals (refine Sq_nil ?_)
  try any_goals (refine G_then ?_)
  try any_goals (refine H_ret ?_)
  repeat (any_goals (first | refine G_ret_then ?_ | refine G_ret_block ?_))
  try any_goals (refine H_skip ?_)
  try any_goals (refine G_then ?_)
  try any_goals (refine H_seq ?_)
  try any_goals (refine H_reg ?_)
  try any_goals (first | refine W_move (d := 12) (sq_stepper hC) rfl rfl rfl ?_)
  try any_goals (first | refine W_fieldG (d := 13) (sq_stepper hC) (Proj.tail _ _ (Proj.tail _ _ (Proj.head _ _ _))) (by kernel_rfl) rfl rfl rfl ?_ | refine W_fieldC (d := 13) (sq_stepper hC) (off := 2) (by kernel_rfl) rfl rfl rfl ?_)
  try any_goals (first | refine W_loadI (d := 14) (sq_stepper hC) (by kernel_rfl) rfl rfl rfl ?_ | refine W_loadB (d := 14) (sq_stepper hC) (by kernel_rfl) rfl rfl rfl ?_ | refine W_loadStr (d := 14) (sq_stepper hC) (by kernel_rfl) rfl rfl rfl ?_ | refine W_loadS (d := 14) (sq_stepper hC) (by kernel_rfl) rfl rfl rfl ?_ | refine W_loadA (d := 14) (sq_stepper hC) (by kernel_rfl) rfl rfl rfl ?_)
  try any_goals (first | refine W_move (d := 15) (sq_stepper hC) rfl rfl rfl ?_)
  try any_goals (first | refine W_ar (d := 16) (sq_stepper hC) rfl rfl rfl rfl rfl (by first | omega | (dsimp only; omega)) ?_)
  try any_goals (first | refine W_ar (d := 17) (sq_stepper hC) rfl rfl rfl rfl rfl (by first | omega | (dsimp only; omega)) ?_)
  try any_goals (first | refine W_fieldG (d := 18) (sq_stepper hC) (Proj.head _ _ _) (by kernel_rfl) rfl rfl rfl ?_ | refine W_fieldC (d := 18) (sq_stepper hC) (off := 0) (by kernel_rfl) rfl rfl rfl ?_)
  try any_goals (first | refine W_loadI (d := 19) (sq_stepper hC) (by kernel_rfl) rfl rfl rfl ?_ | refine W_loadB (d := 19) (sq_stepper hC) (by kernel_rfl) rfl rfl rfl ?_ | refine W_loadStr (d := 19) (sq_stepper hC) (by kernel_rfl) rfl rfl rfl ?_ | refine W_loadS (d := 19) (sq_stepper hC) (by kernel_rfl) rfl rfl rfl ?_ | refine W_loadA (d := 19) (sq_stepper hC) (by kernel_rfl) rfl rfl rfl ?_)
  try any_goals (first | refine W_min (d := 20) (sq_stepper hC) rfl rfl rfl rfl ?_)
  try any_goals (first | refine W_assign (d := 6) (sq_stepper hC) rfl rfl rfl ?_)
  try any_goals (refine Sq_nil ?_)
  try any_goals (refine G_then ?_)
  try any_goals (refine H_ret ?_)
  repeat (any_goals (first | refine G_ret_then ?_ | refine G_ret_block ?_))
  all_goals refine R1v rfl (fun _ h => h) rfl (congrArg (Value.int .i64) ?_)
  all_goals (unfold chg; split <;> omega)
theorem ct_isCharged {e : Option TypeId} (xs : List Leg) (b : Bat) (l : Int) : CT Try.prog 57 [.inr (uS e pLeg xs), .inr (uA pBat b), .inl (.int .i64 l)] (.inl (.bool (legs xs && (batB b && inB l 0 b.C)))) := by
  refine CT_of Try.func57 rfl rfl rfl (fun w => ?_)
  have hC := upC_ext w
  try any_goals (refine H_seq ?_)
  try any_goals (refine H_reg ?_)
  try any_goals (first | refine W_boxA (d := 4) (sq_stepper hC) rfl rfl rfl ?_)
  try any_goals (first | refine W_assign (d := 6) (sq_stepper hC) rfl rfl rfl ?_)
  try any_goals (refine Sq_nil ?_)
  try any_goals (refine G_then ?_)
  try any_goals (refine H_seq ?_)
  try any_goals (refine H_reg ?_)
  try any_goals (first | refine W_move (d := 7) (sq_stepper hC) rfl rfl rfl ?_)
  try any_goals (first | refine W_ct (d := 8) (sq_stepper hC) (ct_iValidLegs _) rfl rfl rfl (by kernel_rfl) ?_)
  try any_goals (first | refine W_move (d := 9) (sq_stepper hC) rfl rfl rfl ?_)
  try any_goals (first | refine W_skip (d := 10) (sq_stepper hC) rfl rfl ?_ | refine W_loadI (d := 10) (sq_stepper hC) (by kernel_rfl) rfl rfl rfl ?_ | refine W_loadB (d := 10) (sq_stepper hC) (by kernel_rfl) rfl rfl rfl ?_ | refine W_loadStr (d := 10) (sq_stepper hC) (by kernel_rfl) rfl rfl rfl ?_ | refine W_loadS (d := 10) (sq_stepper hC) (by kernel_rfl) rfl rfl rfl ?_ | refine W_loadA (d := 10) (sq_stepper hC) (by kernel_rfl) rfl rfl rfl ?_ | (refine W_splitG (sq_stepper hC) _ rfl _ rfl (fun hq => ?_) (fun hq => ?_) <;> ((try simp only [eq_self, not_true_eq_false, not_false_eq_true, bne_self_eq_false, Bool.false_eq_true, Bool.true_eq_false, Bool.and_eq_true, Bool.or_eq_true, Bool.or_eq_false_iff, Bool.not_not, inB_t, inB_f, decide_eq_true_eq, decide_eq_false_iff_not, Bool.not_eq_true', Bool.not_eq_false', Bool.not_eq_true, Bool.not_eq_false, Int.not_lt, Int.not_le, Nat.not_lt, Nat.not_le, reduceCtorEq] at hq); try (have hq' := hq; clear hq)) <;> first | refine W_skip (d := 10) (sq_stepper hC) rfl rfl ?_ | refine W_loadI (d := 10) (sq_stepper hC) (by kernel_rfl) rfl rfl rfl ?_ | refine W_loadB (d := 10) (sq_stepper hC) (by kernel_rfl) rfl rfl rfl ?_ | refine W_loadStr (d := 10) (sq_stepper hC) (by kernel_rfl) rfl rfl rfl ?_ | refine W_loadS (d := 10) (sq_stepper hC) (by kernel_rfl) rfl rfl rfl ?_ | refine W_loadA (d := 10) (sq_stepper hC) (by kernel_rfl) rfl rfl rfl ?_))
  try any_goals (first | refine W_skip (d := 11) (sq_stepper hC) rfl rfl ?_ | refine W_ct (d := 11) (sq_stepper hC) (ct_isBattery _) rfl rfl rfl (by kernel_rfl) ?_ | (refine W_splitG (sq_stepper hC) _ rfl _ rfl (fun hq => ?_) (fun hq => ?_) <;> ((try simp only [eq_self, not_true_eq_false, not_false_eq_true, bne_self_eq_false, Bool.false_eq_true, Bool.true_eq_false, Bool.and_eq_true, Bool.or_eq_true, Bool.or_eq_false_iff, Bool.not_not, inB_t, inB_f, decide_eq_true_eq, decide_eq_false_iff_not, Bool.not_eq_true', Bool.not_eq_false', Bool.not_eq_true, Bool.not_eq_false, Int.not_lt, Int.not_le, Nat.not_lt, Nat.not_le, reduceCtorEq] at hq); try (have hq' := hq; clear hq)) <;> first | refine W_skip (d := 11) (sq_stepper hC) rfl rfl ?_ | refine W_ct (d := 11) (sq_stepper hC) (ct_isBattery _) rfl rfl rfl (by kernel_rfl) ?_))
  try any_goals (first | refine W_pickT (d := 12) (sq_stepper hC) rfl rfl rfl rfl ?_ | refine W_pickF (d := 12) (sq_stepper hC) rfl rfl rfl rfl ?_)
  try any_goals (first | refine W_move (d := 13) (sq_stepper hC) rfl rfl rfl ?_)
  try any_goals (first | refine W_skip (d := 14) (sq_stepper hC) rfl rfl ?_ | refine W_move (d := 14) (sq_stepper hC) rfl rfl rfl ?_ | (refine W_splitG (sq_stepper hC) _ rfl _ rfl (fun hq => ?_) (fun hq => ?_) <;> ((try simp only [eq_self, not_true_eq_false, not_false_eq_true, bne_self_eq_false, Bool.false_eq_true, Bool.true_eq_false, Bool.and_eq_true, Bool.or_eq_true, Bool.or_eq_false_iff, Bool.not_not, inB_t, inB_f, decide_eq_true_eq, decide_eq_false_iff_not, Bool.not_eq_true', Bool.not_eq_false', Bool.not_eq_true, Bool.not_eq_false, Int.not_lt, Int.not_le, Nat.not_lt, Nat.not_le, reduceCtorEq] at hq); try (have hq' := hq; clear hq)) <;> first | refine W_skip (d := 14) (sq_stepper hC) rfl rfl ?_ | refine W_move (d := 14) (sq_stepper hC) rfl rfl rfl ?_))
  try any_goals (first | refine W_skip (d := 15) (sq_stepper hC) rfl rfl ?_ | refine W_fieldG (d := 15) (sq_stepper hC) (Proj.head _ _ _) (by kernel_rfl) rfl rfl rfl ?_ | refine W_fieldC (d := 15) (sq_stepper hC) (off := 0) (by kernel_rfl) rfl rfl rfl ?_ | (refine W_splitG (sq_stepper hC) _ rfl _ rfl (fun hq => ?_) (fun hq => ?_) <;> ((try simp only [eq_self, not_true_eq_false, not_false_eq_true, bne_self_eq_false, Bool.false_eq_true, Bool.true_eq_false, Bool.and_eq_true, Bool.or_eq_true, Bool.or_eq_false_iff, Bool.not_not, inB_t, inB_f, decide_eq_true_eq, decide_eq_false_iff_not, Bool.not_eq_true', Bool.not_eq_false', Bool.not_eq_true, Bool.not_eq_false, Int.not_lt, Int.not_le, Nat.not_lt, Nat.not_le, reduceCtorEq] at hq); try (have hq' := hq; clear hq)) <;> first | refine W_skip (d := 15) (sq_stepper hC) rfl rfl ?_ | refine W_fieldG (d := 15) (sq_stepper hC) (Proj.head _ _ _) (by kernel_rfl) rfl rfl rfl ?_ | refine W_fieldC (d := 15) (sq_stepper hC) (off := 0) (by kernel_rfl) rfl rfl rfl ?_))
  try any_goals (first | refine W_skip (d := 16) (sq_stepper hC) rfl rfl ?_ | refine W_loadI (d := 16) (sq_stepper hC) (by kernel_rfl) rfl rfl rfl ?_ | refine W_loadB (d := 16) (sq_stepper hC) (by kernel_rfl) rfl rfl rfl ?_ | refine W_loadStr (d := 16) (sq_stepper hC) (by kernel_rfl) rfl rfl rfl ?_ | refine W_loadS (d := 16) (sq_stepper hC) (by kernel_rfl) rfl rfl rfl ?_ | refine W_loadA (d := 16) (sq_stepper hC) (by kernel_rfl) rfl rfl rfl ?_ | (refine W_splitG (sq_stepper hC) _ rfl _ rfl (fun hq => ?_) (fun hq => ?_) <;> ((try simp only [eq_self, not_true_eq_false, not_false_eq_true, bne_self_eq_false, Bool.false_eq_true, Bool.true_eq_false, Bool.and_eq_true, Bool.or_eq_true, Bool.or_eq_false_iff, Bool.not_not, inB_t, inB_f, decide_eq_true_eq, decide_eq_false_iff_not, Bool.not_eq_true', Bool.not_eq_false', Bool.not_eq_true, Bool.not_eq_false, Int.not_lt, Int.not_le, Nat.not_lt, Nat.not_le, reduceCtorEq] at hq); try (have hq' := hq; clear hq)) <;> first | refine W_skip (d := 16) (sq_stepper hC) rfl rfl ?_ | refine W_loadI (d := 16) (sq_stepper hC) (by kernel_rfl) rfl rfl rfl ?_ | refine W_loadB (d := 16) (sq_stepper hC) (by kernel_rfl) rfl rfl rfl ?_ | refine W_loadStr (d := 16) (sq_stepper hC) (by kernel_rfl) rfl rfl rfl ?_ | refine W_loadS (d := 16) (sq_stepper hC) (by kernel_rfl) rfl rfl rfl ?_ | refine W_loadA (d := 16) (sq_stepper hC) (by kernel_rfl) rfl rfl rfl ?_))
  try any_goals (first | refine W_skip (d := 17) (sq_stepper hC) rfl rfl ?_ | refine W_ct (d := 17) (sq_stepper hC) (ct_within _ _ _) rfl rfl rfl (by kernel_rfl) ?_ | (refine W_splitG (sq_stepper hC) _ rfl _ rfl (fun hq => ?_) (fun hq => ?_) <;> ((try simp only [eq_self, not_true_eq_false, not_false_eq_true, bne_self_eq_false, Bool.false_eq_true, Bool.true_eq_false, Bool.and_eq_true, Bool.or_eq_true, Bool.or_eq_false_iff, Bool.not_not, inB_t, inB_f, decide_eq_true_eq, decide_eq_false_iff_not, Bool.not_eq_true', Bool.not_eq_false', Bool.not_eq_true, Bool.not_eq_false, Int.not_lt, Int.not_le, Nat.not_lt, Nat.not_le, reduceCtorEq] at hq); try (have hq' := hq; clear hq)) <;> first | refine W_skip (d := 17) (sq_stepper hC) rfl rfl ?_ | refine W_ct (d := 17) (sq_stepper hC) (ct_within _ _ _) rfl rfl rfl (by kernel_rfl) ?_))
  try any_goals (first | refine W_pickT (d := 18) (sq_stepper hC) rfl rfl rfl rfl ?_ | refine W_pickF (d := 18) (sq_stepper hC) rfl rfl rfl rfl ?_)
  try any_goals (first | refine W_assign (d := 6) (sq_stepper hC) rfl rfl rfl ?_)
  try any_goals (refine Sq_nil ?_)
  try any_goals (refine G_then ?_)
  try any_goals (refine H_ret ?_)
  repeat (any_goals (first | refine G_ret_then ?_ | refine G_ret_block ?_))
  all_goals refine R1v rfl (fun _ h => h) rfl (congrArg Value.bool ?_)
  all_goals simp_all
theorem ct_low (b : Bat) (x : Int) : CT Try.prog 76 [.inl (.int .i64 x), .inr (uP pBat b)] (.inl (.bool (decide (x < b.R)))) := by
  refine CT_of Try.func76 rfl rfl rfl (fun w => ?_)
  have hC := upC_ext w
  try any_goals (refine H_seq ?_)
  try any_goals (refine H_reg ?_)
  try any_goals (first | refine W_assign (d := 3) (sq_stepper hC) rfl rfl rfl ?_)
  try any_goals (refine Sq_nil ?_)
  try any_goals (refine G_then ?_)
  try any_goals (refine H_seq ?_)
  try any_goals (refine H_reg ?_)
  try any_goals (first | refine W_move (d := 4) (sq_stepper hC) rfl rfl rfl ?_)
  try any_goals (first | refine W_fieldG (d := 5) (sq_stepper hC) (Proj.tail _ _ (Proj.head _ _ _)) (by kernel_rfl) rfl rfl rfl ?_ | refine W_fieldC (d := 5) (sq_stepper hC) (off := 1) (by kernel_rfl) rfl rfl rfl ?_)
  try any_goals (first | refine W_loadI (d := 6) (sq_stepper hC) (by kernel_rfl) rfl rfl rfl ?_ | refine W_loadB (d := 6) (sq_stepper hC) (by kernel_rfl) rfl rfl rfl ?_ | refine W_loadStr (d := 6) (sq_stepper hC) (by kernel_rfl) rfl rfl rfl ?_ | refine W_loadS (d := 6) (sq_stepper hC) (by kernel_rfl) rfl rfl rfl ?_ | refine W_loadA (d := 6) (sq_stepper hC) (by kernel_rfl) rfl rfl rfl ?_)
  try any_goals (first | refine W_cmp (d := 7) (sq_stepper hC) rfl rfl rfl rfl rfl ?_ | refine W_strcmp (d := 7) (sq_stepper hC) rfl rfl rfl rfl rfl ?_)
  try any_goals (first | refine W_assign (d := 3) (sq_stepper hC) rfl rfl rfl ?_)
  try any_goals (refine Sq_nil ?_)
  try any_goals (refine G_then ?_)
  try any_goals (refine H_ret ?_)
  repeat (any_goals (first | refine G_ret_then ?_ | refine G_ret_block ?_))
  all_goals exact R1v rfl (fun _ h => h) rfl rfl
theorem ct_firstEmpty {e : Option TypeId} (b : Bat) (xs : List Int) : CT Try.prog 62 [.inr (uA pBat b), .inr (uS e pI xs)] (.inl (.int .i64 (firstI (fun j => decide (ix xs j < b.R)) xs.length))) := by
  refine CT_of Try.func62 rfl rfl rfl (fun w => ?_)
  have hC := upC_ext w
  try any_goals (refine H_seq ?_)
  try any_goals (refine H_reg ?_)
  try any_goals (first | refine W_boxA (d := 2) (sq_stepper hC) rfl rfl rfl ?_ | refine W_makeFun (d := 2) (sq_stepper hC) (fun x : Int => [.inl (.int .i64 x)]) (fun x => .inl (.bool (decide (x < b.R)))) (cs := [.inr (uP pBat b)]) (fun x => ct_low b x) rfl rfl rfl (by kernel_rfl) ?_)
  try any_goals (first | refine W_assign (d := 4) (sq_stepper hC) rfl rfl rfl ?_ | refine W_makeFun (d := 4) (sq_stepper hC) (fun x : Int => [.inl (.int .i64 x)]) (fun x => .inl (.bool (decide (x < b.R)))) (cs := [.inr (uP pBat b)]) (fun x => ct_low b x) rfl rfl rfl (by kernel_rfl) ?_)
  try any_goals (refine Sq_nil ?_)
  try any_goals (refine G_then ?_)
  try any_goals (refine H_seq ?_)
  try any_goals (refine H_reg ?_)
  try any_goals (first | refine W_move (d := 5) (sq_stepper hC) rfl rfl rfl ?_ | refine W_makeFun (d := 5) (sq_stepper hC) (fun x : Int => [.inl (.int .i64 x)]) (fun x => .inl (.bool (decide (x < b.R)))) (cs := [.inr (uP pBat b)]) (fun x => ct_low b x) rfl rfl rfl (by kernel_rfl) ?_)
  try any_goals (first | refine W_makeFun (d := 6) (sq_stepper hC) (fun x : Int => [.inl (.int .i64 x)]) (fun x => .inl (.bool (decide (x < b.R)))) (cs := [.inr (uP pBat b)]) (fun x => ct_low b x) rfl rfl rfl (by kernel_rfl) ?_)
  try any_goals (first | refine W_ct (d := 7) (sq_stepper hC) (ct_IndexFunc _ (fun x => decide (x < b.R))) rfl rfl rfl (by kernel_rfl) ?_ | refine W_makeFun (d := 7) (sq_stepper hC) (fun x : Int => [.inl (.int .i64 x)]) (fun x => .inl (.bool (decide (x < b.R)))) (cs := [.inr (uP pBat b)]) (fun x => ct_low b x) rfl rfl rfl (by kernel_rfl) ?_)
  try any_goals (first | refine W_assign (d := 4) (sq_stepper hC) rfl rfl rfl ?_ | refine W_makeFun (d := 4) (sq_stepper hC) (fun x : Int => [.inl (.int .i64 x)]) (fun x => .inl (.bool (decide (x < b.R)))) (cs := [.inr (uP pBat b)]) (fun x => ct_low b x) rfl rfl rfl (by kernel_rfl) ?_)
  try any_goals (refine Sq_nil ?_)
  try any_goals (refine G_then ?_)
  try any_goals (refine H_ret ?_)
  repeat (any_goals (first | refine G_ret_then ?_ | refine G_ret_block ?_))
  all_goals exact R1v rfl (fun _ h => h) rfl rfl
def aft (xs : List Leg) (b : Bat) (l : Int) (p : List Int) (i : Nat) : Int := bef xs b l p i - (ix xs i).U
def empt (xs : List Leg) (b : Bat) (l : Int) (p : List Int) : Int := firstI (fun j => decide (aft xs b l p j < b.R)) xs.length
theorem ix_befs {xs : List Leg} {b : Bat} {l : Int} {p : List Int} {n : Nat} {i : Int} (h0 : 0 ≤ i) (h1 : i < n) : ix (befs xs b l p n) i = bef xs b l p i.toNat := by
  have := ix_get (xs := befs xs b l p n) (i := i) h0 (by rw [befs_length]; exact h1)
  rw [befs, List.getElem?_map, List.getElem?_range (by omega)] at this
  simp only [Option.map_some, Option.some.injEq] at this
  rw [befs, ← this]
theorem aft_eq {xs : List Leg} {b : Bat} {l : Int} {p : List Int} {i : Int} (h0 : 0 ≤ i) (h1 : i < xs.length) : ix (befs xs b l p xs.length) i - (ix xs i).U = aft xs b l p i.toNat := by
  rw [ix_befs h0 h1, aft, show ((i.toNat : Nat) : Int) = i by omega]
theorem ct_sEmpty {e1 e2 : Option TypeId} (xs : List Leg) (b : Bat) (l : Int) (p : List Int) (hv : Val xs b l p) : CT Try.prog 61 [.inr (uS e1 pLeg xs), .inr (uA pBat b), .inl (.int .i64 l), .inr (uS e2 pI p)] (.inl (.int .i64 (empt xs b l p))) := by
  refine CT_len fun hlen => ?_
  refine CT_of Try.func61 rfl rfl rfl (fun w => ?_)
  have hC := upC_ext w
  have hx := hv.len
  have hb := hv.bat
  try any_goals (refine H_seq ?_)
  try any_goals (refine H_reg ?_)
  try any_goals (first | refine W_boxA (d := 5) (sq_stepper hC) rfl rfl rfl ?_)
  try any_goals (first | refine W_assign (d := 8) (sq_stepper hC) rfl rfl rfl ?_)
  try any_goals (refine Sq_nil ?_)
  try any_goals (refine G_then ?_)
  try any_goals (refine H_seq ?_)
  try any_goals (refine H_reg ?_)
  try any_goals (first | refine W_move (d := 11) (sq_stepper hC) rfl rfl rfl ?_)
  try any_goals (first | refine W_loadI (d := 12) (sq_stepper hC) (by kernel_rfl) rfl rfl rfl ?_ | refine W_loadB (d := 12) (sq_stepper hC) (by kernel_rfl) rfl rfl rfl ?_ | refine W_loadStr (d := 12) (sq_stepper hC) (by kernel_rfl) rfl rfl rfl ?_ | refine W_loadS (d := 12) (sq_stepper hC) (by kernel_rfl) rfl rfl rfl ?_ | refine W_loadA (d := 12) (sq_stepper hC) (by kernel_rfl) rfl rfl rfl ?_)
  try any_goals (first | refine W_move (d := 13) (sq_stepper hC) rfl rfl rfl ?_)
  try any_goals (first | refine W_move (d := 14) (sq_stepper hC) rfl rfl rfl ?_)
  try any_goals (first | refine W_ct (d := 15) (sq_stepper hC) (ct_sBefore _ _ _ _ hv) rfl rfl rfl (by kernel_rfl) ?_)
  try any_goals (first | refine W_assign (d := 9) (sq_stepper hC) rfl rfl rfl ?_)
  try any_goals (refine Sq_nil ?_)
  try any_goals (refine G_then ?_)
  try any_goals (refine H_seq ?_)
  try any_goals (refine H_seq ?_)
  try any_goals (refine H_reg ?_)
  try any_goals (first | refine W_assign (d := 10) (sq_stepper hC) rfl rfl rfl ?_)
  try any_goals (refine Sq_nil ?_)
  try any_goals (refine G_then ?_)
  try any_goals (refine H_block ?_)
  try any_goals ((refine H_loop (fun i : Int => 0 ≤ i ∧ i ≤ xs.length ∧ ∀ j : Nat, (j : Int) < i → decide (aft xs b l p j < b.R) = false) (fun i => [(0, .inr (uS e1 pLeg xs)), (5, .inr (uP pBat b)), (9, .inr (uS (some 3) pI (befs xs b l p xs.length))), (10, .inl (.int .i64 i))]) (fun _ => Ext w) (fun i => (xs.length - i).toNat) 0 ⟨by omega, by omega, fun j hj => by omega⟩ (fun a w h => h.sub (by repeat (first | exact trivial | refine ⟨⟨_, rfl, fun _ _ _ h => h⟩, ?_⟩)) fun _ h => h) (fun i hi => ?_); obtain ⟨h0, h1, hall⟩ := hi))
  try any_goals (refine H_seq ?_)
  try any_goals (refine H_seq ?_)
  try any_goals (refine H_reg ?_)
  try any_goals (first | refine W_move (d := 16) (sq_stepper hC) rfl rfl rfl ?_)
  try any_goals (first | refine W_move (d := 17) (sq_stepper hC) rfl rfl rfl ?_)
  try any_goals (first | refine W_len (d := 18) (sq_stepper hC) (by kernel_rfl) rfl rfl rfl ?_ | refine W_lenStr (d := 18) (sq_stepper hC) (by kernel_rfl) rfl rfl rfl ?_)
  try any_goals (first | refine W_cmp (d := 19) (sq_stepper hC) rfl rfl rfl rfl rfl ?_ | refine W_strcmp (d := 19) (sq_stepper hC) rfl rfl rfl rfl rfl ?_)
  try any_goals (refine Sq_nil ?_)
  try any_goals (refine G_then ?_)
  try any_goals (first | refine H_condT rfl ?_ | refine H_condF rfl ?_ | (refine H_cond _ rfl (fun hq => ?_) (fun hq => ?_) <;> (try simp only [eq_self, not_true_eq_false, not_false_eq_true, bne_self_eq_false, Bool.false_eq_true, Bool.true_eq_false, Bool.and_eq_true, Bool.or_eq_true, Bool.or_eq_false_iff, Bool.not_not, inB_t, inB_f, decide_eq_true_eq, decide_eq_false_iff_not, Bool.not_eq_true', Bool.not_eq_false', Bool.not_eq_true, Bool.not_eq_false, Int.not_lt, Int.not_le, Nat.not_lt, Nat.not_le, reduceCtorEq] at hq)))
  try any_goals (first | ((have hu := hv.leg (i := i) (by omega) (by omega); have hbf := hv.bef i.toNat (by omega); rw [← ix_befs (n := xs.length) h0 (by omega)] at hbf; have hbl : i < (befs xs b l p xs.length).length := by rw [befs_length]; omega)) | skip)
  try any_goals (refine H_skip ?_)
  try any_goals (refine H_exit ?_)
  repeat (any_goals (first | refine G_exit_then ?_ | refine G_exit_here ?_ | refine G_exit_far rfl ?_))
  try any_goals (refine G_then ?_)
  try any_goals (refine H_seq ?_)
  try any_goals (refine H_block ?_)
  try any_goals (refine H_seq ?_)
  try any_goals (refine H_draw' (by kernel_rfl) hC ?_)
  try any_goals (first | refine W_move (d := 22) wk_stepper rfl rfl rfl ?_)
  try any_goals (first | refine W_move (d := 23) wk_stepper rfl rfl rfl ?_)
  try any_goals (first | refine W_index (d := 24) wk_stepper (by kernel_rfl) rfl rfl rfl rfl (by first | omega | (dsimp only; omega)) ?_)
  try any_goals (first | refine W_loadI (d := 25) wk_stepper (by kernel_rfl) rfl rfl rfl ?_ | refine W_loadB (d := 25) wk_stepper (by kernel_rfl) rfl rfl rfl ?_ | refine W_loadStr (d := 25) wk_stepper (by kernel_rfl) rfl rfl rfl ?_ | refine W_loadS (d := 25) wk_stepper (by kernel_rfl) rfl rfl rfl ?_ | refine W_loadA (d := 25) wk_stepper (by kernel_rfl) rfl rfl rfl ?_)
  try any_goals (first | refine W_move (d := 26) wk_stepper rfl rfl rfl ?_)
  try any_goals (first | refine W_move (d := 27) wk_stepper rfl rfl rfl ?_)
  try any_goals (first | refine W_index (d := 28) wk_stepper (by kernel_rfl) rfl rfl rfl rfl (by first | omega | (dsimp only; omega)) ?_)
  try any_goals (first | refine W_fieldG (d := 29) wk_stepper (Proj.tail _ _ (Proj.tail _ _ (Proj.head _ _ _))) (by kernel_rfl) rfl rfl rfl ?_ | refine W_fieldC (d := 29) wk_stepper (off := 2) (by kernel_rfl) rfl rfl rfl ?_)
  try any_goals (first | refine W_loadI (d := 30) wk_stepper (by kernel_rfl) rfl rfl rfl ?_ | refine W_loadB (d := 30) wk_stepper (by kernel_rfl) rfl rfl rfl ?_ | refine W_loadStr (d := 30) wk_stepper (by kernel_rfl) rfl rfl rfl ?_ | refine W_loadS (d := 30) wk_stepper (by kernel_rfl) rfl rfl rfl ?_ | refine W_loadA (d := 30) wk_stepper (by kernel_rfl) rfl rfl rfl ?_)
  try any_goals (first | refine W_ar (d := 31) wk_stepper rfl rfl rfl rfl rfl (by first | omega | (dsimp only; omega)) ?_)
  try any_goals (first | refine W_fieldG (d := 32) wk_stepper (Proj.tail _ _ (Proj.head _ _ _)) (by kernel_rfl) rfl rfl rfl ?_ | refine W_fieldC (d := 32) wk_stepper (off := 1) (by kernel_rfl) rfl rfl rfl ?_)
  try any_goals (first | refine W_loadI (d := 33) wk_stepper (by kernel_rfl) rfl rfl rfl ?_ | refine W_loadB (d := 33) wk_stepper (by kernel_rfl) rfl rfl rfl ?_ | refine W_loadStr (d := 33) wk_stepper (by kernel_rfl) rfl rfl rfl ?_ | refine W_loadS (d := 33) wk_stepper (by kernel_rfl) rfl rfl rfl ?_ | refine W_loadA (d := 33) wk_stepper (by kernel_rfl) rfl rfl rfl ?_)
  try any_goals (first | refine W_cmp (d := 34) wk_stepper rfl rfl rfl rfl rfl ?_ | refine W_strcmp (d := 34) wk_stepper rfl rfl rfl rfl rfl ?_)
  try any_goals (refine Wk_end (by kernel_rfl) (by kernel_rfl) ?_)
  try any_goals (refine G_then ?_)
  try any_goals (first | refine H_condT rfl ?_ | refine H_condF rfl ?_ | (refine H_cond _ rfl (fun hq => ?_) (fun hq => ?_) <;> (try simp only [eq_self, not_true_eq_false, not_false_eq_true, bne_self_eq_false, Bool.false_eq_true, Bool.true_eq_false, Bool.and_eq_true, Bool.or_eq_true, Bool.or_eq_false_iff, Bool.not_not, inB_t, inB_f, decide_eq_true_eq, decide_eq_false_iff_not, Bool.not_eq_true', Bool.not_eq_false', Bool.not_eq_true, Bool.not_eq_false, Int.not_lt, Int.not_le, Nat.not_lt, Nat.not_le, reduceCtorEq] at hq)))
  try any_goals (first | ((have hu := hv.leg (i := i) (by omega) (by omega); have hbf := hv.bef i.toNat (by omega); rw [← ix_befs (n := xs.length) h0 (by omega)] at hbf; have hbl : i < (befs xs b l p xs.length).length := by rw [befs_length]; omega)) | skip)
  try any_goals (refine H_seq ?_)
  try any_goals (refine H_reg ?_)
  try any_goals (first | refine W_move (d := 35) (sq_stepper hC) rfl rfl rfl ?_)
  try any_goals (first | refine W_assign (d := 8) (sq_stepper hC) rfl rfl rfl ?_)
  try any_goals (refine Sq_nil ?_)
  try any_goals (refine G_then ?_)
  try any_goals (refine H_ret ?_)
  repeat (any_goals (first | refine G_ret_then ?_ | refine G_ret_block ?_))
  try any_goals (refine H_skip ?_)
  repeat (any_goals (first | refine G_exit_then ?_ | refine G_exit_here ?_ | refine G_exit_far rfl ?_ | refine G_normal_block ?_))
  try any_goals (refine G_then ?_)
  try any_goals (refine H_reg ?_)
  try any_goals (first | refine W_move (d := 20) (sq_stepper hC) rfl rfl rfl ?_)
  try any_goals (first | refine W_ar (d := 21) (sq_stepper hC) rfl rfl rfl rfl rfl (by first | omega | (dsimp only; omega)) ?_)
  try any_goals (first | refine W_assign (d := 10) (sq_stepper hC) rfl rfl rfl ?_)
  try any_goals (refine Sq_nil ?_)
  try any_goals (refine G_again (i + 1) ⟨by omega, by omega, ?_⟩ (by omega) (by repeat (first | exact trivial | refine ⟨⟨_, rfl, fun _ _ _ h => h⟩, ?_⟩)) (fun _ h => h))
  repeat (any_goals (first | refine G_exit_then ?_ | refine G_exit_here ?_ | refine G_exit_far rfl ?_ | refine G_normal_block ?_))
  try any_goals (refine G_then ?_)
  try any_goals (refine H_seq ?_)
  try any_goals (refine H_reg ?_)
  try any_goals (first | refine W_assign (d := 8) (sq_stepper hC) rfl rfl rfl ?_)
  try any_goals (refine Sq_nil ?_)
  try any_goals (refine G_then ?_)
  try any_goals (refine H_ret ?_)
  repeat (any_goals (first | refine G_ret_then ?_ | refine G_ret_block ?_))
  all_goals first
    | (refine R1v rfl (fun _ h => h) rfl (congrArg (Value.int .i64) ?_)
       rw [aft_eq h0 (by omega)] at hq
       rw [empt, firstI_some (i := i.toNat) (decide_eq_true hq) (fun j hj => hall j (by omega)) (by omega)]
       omega)
    | (intro j hj
       rw [aft_eq h0 (by omega)] at hq
       by_cases e : (j : Int) = i
       · rw [show j = i.toNat by omega]; exact decide_eq_false (by omega)
       · exact hall j (by omega))
    | (refine R1v rfl (fun _ h => h) rfl (congrArg (Value.int .i64) ?_)
       rw [empt, firstI_none fun j hj => hall j (by omega)])
def lvOk (xs : List Leg) (b : Bat) (l : Int) (p : List Int) : Bool := legs xs && (batB b && inB l 0 b.C) && plOk xs p
theorem lvOk_val {xs : List Leg} {b : Bat} {l : Int} {p : List Int} (h1 : legs xs = true) (h2 : (batB b && inB l 0 b.C) = true) (h3 : plOk xs p = true) : Val xs b l p ∧ lvOk xs b l p = true := by
  have h2' := h2
  simp only [Bool.and_eq_true, inB_t] at h2'
  exact ⟨⟨h1, h2'.1, h2'.2, h3⟩, by simp [lvOk, h1, h2, h3]⟩
def emptR (xs : List Leg) (b : Bat) (l : Int) (p : List Int) : Int := if lvOk xs b l p = true then empt xs b l p else 0
theorem ct_sFirst {e1 e2 : Option TypeId} (xs : List Leg) (b : Bat) (l : Int) (p : List Int) : CT Try.prog 31 [.inr (uS e1 pLeg xs), .inr (uA pBat b), .inl (.int .i64 l), .inr (uS e2 pI p)] (.inr (uT [.inl (.int .i64 (emptR xs b l p)), .inl (.bool (lvOk xs b l p))])) := by
  refine CT_of Try.func31 rfl rfl rfl (fun w => ?_)
  have hC := upC_ext w
  cases h1 : legs xs <;> cases h2 : (batB b && inB l 0 b.C) <;> cases h3 : plOk xs p
  all_goals (have hT : emptR xs b l p = (if lvOk xs b l p = true then empt xs b l p else 0) := rfl)
  try any_goals (refine H_seq ?_)
  try any_goals (refine H_reg ?_)
  try any_goals (first | refine W_boxA (d := 5) (sq_stepper hC) rfl rfl rfl ?_)
  try any_goals (first | refine W_assign (d := 8) (sq_stepper hC) rfl rfl rfl ?_)
  try any_goals (first | refine W_assign (d := 9) (sq_stepper hC) rfl rfl rfl ?_)
  try any_goals (refine Sq_nil ?_)
  try any_goals (refine G_then ?_)
  try any_goals (refine H_seq ?_)
  try any_goals (refine H_seq ?_)
  try any_goals (refine H_reg ?_)
  try any_goals (first | refine W_move (d := 10) (sq_stepper hC) rfl rfl rfl ?_)
  try any_goals (first | refine W_ct (d := 11) (sq_stepper hC) ((h1 ▸ ct_l16Legs xs)) rfl rfl rfl (by kernel_rfl) ?_)
  try any_goals (first | refine W_not (d := 12) (sq_stepper hC) rfl rfl rfl ?_)
  try any_goals (first | refine W_move (d := 13) (sq_stepper hC) rfl rfl rfl ?_)
  try any_goals (first | refine W_skip (d := 14) (sq_stepper hC) rfl rfl ?_ | refine W_loadI (d := 14) (sq_stepper hC) (by kernel_rfl) rfl rfl rfl ?_ | refine W_loadB (d := 14) (sq_stepper hC) (by kernel_rfl) rfl rfl rfl ?_ | refine W_loadStr (d := 14) (sq_stepper hC) (by kernel_rfl) rfl rfl rfl ?_ | refine W_loadS (d := 14) (sq_stepper hC) (by kernel_rfl) rfl rfl rfl ?_ | refine W_loadA (d := 14) (sq_stepper hC) (by kernel_rfl) rfl rfl rfl ?_ | (refine W_splitG (sq_stepper hC) _ rfl _ rfl (fun hq => ?_) (fun hq => ?_) <;> ((try simp only [eq_self, not_true_eq_false, not_false_eq_true, bne_self_eq_false, Bool.false_eq_true, Bool.true_eq_false, Bool.and_eq_true, Bool.or_eq_true, Bool.or_eq_false_iff, Bool.not_not, inB_t, inB_f, decide_eq_true_eq, decide_eq_false_iff_not, Bool.not_eq_true', Bool.not_eq_false', Bool.not_eq_true, Bool.not_eq_false, Int.not_lt, Int.not_le, Nat.not_lt, Nat.not_le, reduceCtorEq] at hq); try (have hq' := hq; clear hq)) <;> first | refine W_skip (d := 14) (sq_stepper hC) rfl rfl ?_ | refine W_loadI (d := 14) (sq_stepper hC) (by kernel_rfl) rfl rfl rfl ?_ | refine W_loadB (d := 14) (sq_stepper hC) (by kernel_rfl) rfl rfl rfl ?_ | refine W_loadStr (d := 14) (sq_stepper hC) (by kernel_rfl) rfl rfl rfl ?_ | refine W_loadS (d := 14) (sq_stepper hC) (by kernel_rfl) rfl rfl rfl ?_ | refine W_loadA (d := 14) (sq_stepper hC) (by kernel_rfl) rfl rfl rfl ?_))
  try any_goals (first | refine W_skip (d := 15) (sq_stepper hC) rfl rfl ?_ | refine W_move (d := 15) (sq_stepper hC) rfl rfl rfl ?_ | (refine W_splitG (sq_stepper hC) _ rfl _ rfl (fun hq => ?_) (fun hq => ?_) <;> ((try simp only [eq_self, not_true_eq_false, not_false_eq_true, bne_self_eq_false, Bool.false_eq_true, Bool.true_eq_false, Bool.and_eq_true, Bool.or_eq_true, Bool.or_eq_false_iff, Bool.not_not, inB_t, inB_f, decide_eq_true_eq, decide_eq_false_iff_not, Bool.not_eq_true', Bool.not_eq_false', Bool.not_eq_true, Bool.not_eq_false, Int.not_lt, Int.not_le, Nat.not_lt, Nat.not_le, reduceCtorEq] at hq); try (have hq' := hq; clear hq)) <;> first | refine W_skip (d := 15) (sq_stepper hC) rfl rfl ?_ | refine W_move (d := 15) (sq_stepper hC) rfl rfl rfl ?_))
  try any_goals (first | refine W_skip (d := 16) (sq_stepper hC) rfl rfl ?_ | refine W_ct (d := 16) (sq_stepper hC) ((h2 ▸ ct_l16Battery b l)) rfl rfl rfl (by kernel_rfl) ?_ | (refine W_splitG (sq_stepper hC) _ rfl _ rfl (fun hq => ?_) (fun hq => ?_) <;> ((try simp only [eq_self, not_true_eq_false, not_false_eq_true, bne_self_eq_false, Bool.false_eq_true, Bool.true_eq_false, Bool.and_eq_true, Bool.or_eq_true, Bool.or_eq_false_iff, Bool.not_not, inB_t, inB_f, decide_eq_true_eq, decide_eq_false_iff_not, Bool.not_eq_true', Bool.not_eq_false', Bool.not_eq_true, Bool.not_eq_false, Int.not_lt, Int.not_le, Nat.not_lt, Nat.not_le, reduceCtorEq] at hq); try (have hq' := hq; clear hq)) <;> first | refine W_skip (d := 16) (sq_stepper hC) rfl rfl ?_ | refine W_ct (d := 16) (sq_stepper hC) ((h2 ▸ ct_l16Battery b l)) rfl rfl rfl (by kernel_rfl) ?_))
  try any_goals (first | refine W_skip (d := 17) (sq_stepper hC) rfl rfl ?_ | refine W_not (d := 17) (sq_stepper hC) rfl rfl rfl ?_ | (refine W_splitG (sq_stepper hC) _ rfl _ rfl (fun hq => ?_) (fun hq => ?_) <;> ((try simp only [eq_self, not_true_eq_false, not_false_eq_true, bne_self_eq_false, Bool.false_eq_true, Bool.true_eq_false, Bool.and_eq_true, Bool.or_eq_true, Bool.or_eq_false_iff, Bool.not_not, inB_t, inB_f, decide_eq_true_eq, decide_eq_false_iff_not, Bool.not_eq_true', Bool.not_eq_false', Bool.not_eq_true, Bool.not_eq_false, Int.not_lt, Int.not_le, Nat.not_lt, Nat.not_le, reduceCtorEq] at hq); try (have hq' := hq; clear hq)) <;> first | refine W_skip (d := 17) (sq_stepper hC) rfl rfl ?_ | refine W_not (d := 17) (sq_stepper hC) rfl rfl rfl ?_))
  try any_goals (first | refine W_pickT (d := 18) (sq_stepper hC) rfl rfl rfl rfl ?_ | refine W_pickF (d := 18) (sq_stepper hC) rfl rfl rfl rfl ?_)
  try any_goals (first | refine W_move (d := 19) (sq_stepper hC) rfl rfl rfl ?_)
  try any_goals (first | refine W_skip (d := 20) (sq_stepper hC) rfl rfl ?_ | refine W_move (d := 20) (sq_stepper hC) rfl rfl rfl ?_ | (refine W_splitG (sq_stepper hC) _ rfl _ rfl (fun hq => ?_) (fun hq => ?_) <;> ((try simp only [eq_self, not_true_eq_false, not_false_eq_true, bne_self_eq_false, Bool.false_eq_true, Bool.true_eq_false, Bool.and_eq_true, Bool.or_eq_true, Bool.or_eq_false_iff, Bool.not_not, inB_t, inB_f, decide_eq_true_eq, decide_eq_false_iff_not, Bool.not_eq_true', Bool.not_eq_false', Bool.not_eq_true, Bool.not_eq_false, Int.not_lt, Int.not_le, Nat.not_lt, Nat.not_le, reduceCtorEq] at hq); try (have hq' := hq; clear hq)) <;> first | refine W_skip (d := 20) (sq_stepper hC) rfl rfl ?_ | refine W_move (d := 20) (sq_stepper hC) rfl rfl rfl ?_))
  try any_goals (first | refine W_skip (d := 21) (sq_stepper hC) rfl rfl ?_ | refine W_move (d := 21) (sq_stepper hC) rfl rfl rfl ?_ | (refine W_splitG (sq_stepper hC) _ rfl _ rfl (fun hq => ?_) (fun hq => ?_) <;> ((try simp only [eq_self, not_true_eq_false, not_false_eq_true, bne_self_eq_false, Bool.false_eq_true, Bool.true_eq_false, Bool.and_eq_true, Bool.or_eq_true, Bool.or_eq_false_iff, Bool.not_not, inB_t, inB_f, decide_eq_true_eq, decide_eq_false_iff_not, Bool.not_eq_true', Bool.not_eq_false', Bool.not_eq_true, Bool.not_eq_false, Int.not_lt, Int.not_le, Nat.not_lt, Nat.not_le, reduceCtorEq] at hq); try (have hq' := hq; clear hq)) <;> first | refine W_skip (d := 21) (sq_stepper hC) rfl rfl ?_ | refine W_move (d := 21) (sq_stepper hC) rfl rfl rfl ?_))
  try any_goals (first | refine W_skip (d := 22) (sq_stepper hC) rfl rfl ?_ | refine W_ct (d := 22) (sq_stepper hC) ((h3 ▸ ct_sPlan xs p h1)) rfl rfl rfl (by kernel_rfl) ?_ | (refine W_splitG (sq_stepper hC) _ rfl _ rfl (fun hq => ?_) (fun hq => ?_) <;> ((try simp only [eq_self, not_true_eq_false, not_false_eq_true, bne_self_eq_false, Bool.false_eq_true, Bool.true_eq_false, Bool.and_eq_true, Bool.or_eq_true, Bool.or_eq_false_iff, Bool.not_not, inB_t, inB_f, decide_eq_true_eq, decide_eq_false_iff_not, Bool.not_eq_true', Bool.not_eq_false', Bool.not_eq_true, Bool.not_eq_false, Int.not_lt, Int.not_le, Nat.not_lt, Nat.not_le, reduceCtorEq] at hq); try (have hq' := hq; clear hq)) <;> first | refine W_skip (d := 22) (sq_stepper hC) rfl rfl ?_ | refine W_ct (d := 22) (sq_stepper hC) ((h3 ▸ ct_sPlan xs p h1)) rfl rfl rfl (by kernel_rfl) ?_))
  try any_goals (first | refine W_skip (d := 23) (sq_stepper hC) rfl rfl ?_ | refine W_not (d := 23) (sq_stepper hC) rfl rfl rfl ?_ | (refine W_splitG (sq_stepper hC) _ rfl _ rfl (fun hq => ?_) (fun hq => ?_) <;> ((try simp only [eq_self, not_true_eq_false, not_false_eq_true, bne_self_eq_false, Bool.false_eq_true, Bool.true_eq_false, Bool.and_eq_true, Bool.or_eq_true, Bool.or_eq_false_iff, Bool.not_not, inB_t, inB_f, decide_eq_true_eq, decide_eq_false_iff_not, Bool.not_eq_true', Bool.not_eq_false', Bool.not_eq_true, Bool.not_eq_false, Int.not_lt, Int.not_le, Nat.not_lt, Nat.not_le, reduceCtorEq] at hq); try (have hq' := hq; clear hq)) <;> first | refine W_skip (d := 23) (sq_stepper hC) rfl rfl ?_ | refine W_not (d := 23) (sq_stepper hC) rfl rfl rfl ?_))
  try any_goals (first | refine W_pickT (d := 24) (sq_stepper hC) rfl rfl rfl rfl ?_ | refine W_pickF (d := 24) (sq_stepper hC) rfl rfl rfl rfl ?_)
  try any_goals (refine Sq_nil ?_)
  try any_goals (refine G_then ?_)
  try any_goals (first | refine H_condT rfl ?_ | refine H_condF rfl ?_ | (refine H_cond _ rfl (fun hq => ?_) (fun hq => ?_) <;> (try simp only [eq_self, not_true_eq_false, not_false_eq_true, bne_self_eq_false, Bool.false_eq_true, Bool.true_eq_false, Bool.and_eq_true, Bool.or_eq_true, Bool.or_eq_false_iff, Bool.not_not, inB_t, inB_f, decide_eq_true_eq, decide_eq_false_iff_not, Bool.not_eq_true', Bool.not_eq_false', Bool.not_eq_true, Bool.not_eq_false, Int.not_lt, Int.not_le, Nat.not_lt, Nat.not_le, reduceCtorEq] at hq)))
  try any_goals (refine H_seq ?_)
  try any_goals (refine H_reg ?_)
  try any_goals (first | refine W_assign (d := 8) (sq_stepper hC) rfl rfl rfl ?_)
  try any_goals (first | refine W_assign (d := 9) (sq_stepper hC) rfl rfl rfl ?_)
  try any_goals (refine Sq_nil ?_)
  try any_goals (refine G_then ?_)
  try any_goals (refine H_ret ?_)
  repeat (any_goals (first | refine G_ret_then ?_ | refine G_ret_block ?_))
  try any_goals (refine H_skip ?_)
  try any_goals (refine G_then ?_)
  try any_goals (refine H_seq ?_)
  try any_goals (refine H_reg ?_)
  try any_goals (first | refine W_move (d := 25) (sq_stepper hC) rfl rfl rfl ?_)
  try any_goals (first | refine W_loadI (d := 26) (sq_stepper hC) (by kernel_rfl) rfl rfl rfl ?_ | refine W_loadB (d := 26) (sq_stepper hC) (by kernel_rfl) rfl rfl rfl ?_ | refine W_loadStr (d := 26) (sq_stepper hC) (by kernel_rfl) rfl rfl rfl ?_ | refine W_loadS (d := 26) (sq_stepper hC) (by kernel_rfl) rfl rfl rfl ?_ | refine W_loadA (d := 26) (sq_stepper hC) (by kernel_rfl) rfl rfl rfl ?_)
  try any_goals (first | refine W_move (d := 27) (sq_stepper hC) rfl rfl rfl ?_)
  try any_goals (first | refine W_move (d := 28) (sq_stepper hC) rfl rfl rfl ?_)
  try any_goals (first | refine W_ct (d := 29) (sq_stepper hC) (ct_sEmpty _ _ _ _ (lvOk_val h1 h2 h3).1) rfl rfl rfl (by kernel_rfl) ?_)
  try any_goals (first | refine W_assign (d := 8) (sq_stepper hC) rfl rfl rfl ?_)
  try any_goals (first | refine W_assign (d := 9) (sq_stepper hC) rfl rfl rfl ?_)
  try any_goals (refine Sq_nil ?_)
  try any_goals (refine G_then ?_)
  try any_goals (refine H_ret ?_)
  repeat (any_goals (first | refine G_ret_then ?_ | refine G_ret_block ?_))
  all_goals refine R2v rfl (fun _ h => h) rfl rfl ?_ ?_
  all_goals simp [emptR, lvOk, h1, h2, h3]
end Go.Proofs.Ytdpcbbbfikhiiaa

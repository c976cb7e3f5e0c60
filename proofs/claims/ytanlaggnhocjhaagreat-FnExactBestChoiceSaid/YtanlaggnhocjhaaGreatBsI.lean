/- The best choice: the program's side. -/
import Derived.Test.YtanlaggnhocjhaaGreatRunF0
import Derived.Test.YtanlaggnhocjhaaGreatTab
import Derived.Test.YtanlaggnhocjhaaGreatBsf
namespace Go.Proofs.YtanlaggnhocjhaaGreat
set_option linter.unusedSimpArgs false
set_option linter.unusedVariables false
open Go.RowKit Go.ChangeShapes Go.WideShapes Go.ChangeAt Go.Deep
theorem tabP_open {t : Tab} {v : Value} {w : World} (h : IsP bTab t v w) : ∃ b o vT, v = .pointer (some ⟨b, o, none⟩) ∧ w.cell? ⟨b, o + 2, none⟩ = some vT ∧ IsS (some 78) pTrp t.T vT w := by
  obtain ⟨b, o, cs, rfl, hc, c1, c2, rfl, h1, c3, c4, rfl, ⟨vT, rfl, h2⟩, h3⟩ := h
  have hl : c1.length = 2 := Phi.len _ _ _ _ h1
  refine ⟨b, o, vT, rfl, hc 2 vT ?_, h2⟩
  rw [List.getElem?_append_right (by omega), hl]
  rfl
end Go.Proofs.YtanlaggnhocjhaaGreat
namespace Go.Proofs.YtanlaggnhocjhaaGreat
set_option linter.unusedSimpArgs false
set_option linter.unusedVariables false
open Go.RowKit Go.ChangeShapes Go.WideShapes Go.ChangeAt Go.Deep
theorem cT_can {t : Tab} (hv : tabB t = true) {s : Nat} : canB t (cT t s t.T.length) = true := by
  unfold canB
  refine allB_t.2 fun j hj => ?_
  rw [canAt_t]
  have ha := cT_asc hv (s := s) (Nat.le_refl t.T.length)
  refine ⟨cT_ids hv (Nat.le_refl _) (mem_ix (by omega) hj), ?_⟩
  by_cases e : j = 0
  · exact .inl (by omega)
  · refine .inr ?_
    have h1 := List.pairwise_iff_getElem.1 ha (j - 1) j (by omega) (by omega) (by omega)
    rw [show (j : Int) - 1 = ((j - 1 : Nat) : Int) by omega, ix_elem (by omega), ix_elem (by omega)]
    exact h1
theorem coT_bd {t : Tab} {f : Flt} {B : List (List Int)} {xs : List Dly} {p : Int} (h : BlV t f B) (hm : MinOk xs) (hp : 0 ≤ p ∧ p ≤ 1000) {s : Nat} : 0 ≤ coT t f B xs p s ∧ coT t f B xs p s ≤ 1900800 := by
  have h1 := coS_bd (c := cT t s t.T.length) h.hv (cdL_db (c := cT t s t.T.length) h hm) hp (i := t.T.length) (by omega)
  have h2 := (tabB_k h.hv).2.1
  unfold coT cdL
  omega
theorem tT_no {t : Tab} {f : Flt} {B : List (List Int)} {xs : List Dly} {p : Int} {s : Nat} (ho : okT t f B s = false) : lT t f B xs p (s + 1) = lT t f B xs p s ∧ kT t f B xs p (s + 1) = kT t f B xs p s := by
  have e : seT t f B xs p (s + 1) = seT t f B xs p s := by
    unfold seT
    rw [sel, ho]
    simp
  unfold lT kT
  rw [e]
  exact ⟨rfl, rfl⟩
theorem tT_up {t : Tab} {f : Flt} {B : List (List Int)} {xs : List Dly} {p : Int} {s : Nat} (ho : okT t f B s = true) (hu : kyL (coT t f B xs p s) (cT t s t.T.length) (kT t f B xs p s) (lT t f B xs p s) = true) : lT t f B xs p (s + 1) = cT t s t.T.length ∧ kT t f B xs p (s + 1) = coT t f B xs p s := by
  have e : seT t f B xs p (s + 1) = some s := by
    unfold seT at *
    rw [sel, ho]
    simp only [if_true]
    unfold kT lT seT at hu
    cases e : sel (okT t f B) (coT t f B xs p) (fun s => cT t s t.T.length) s with
    | none => rfl
    | some r =>
      rw [e] at hu
      simp only at hu ⊢
      rw [if_pos hu]
  unfold lT kT
  rw [e]
  exact ⟨rfl, rfl⟩
theorem tT_same {t : Tab} {f : Flt} {B : List (List Int)} {xs : List Dly} {p : Int} {s : Nat} (hc : coT t f B xs p s < 1073741824) (ho : okT t f B s = true) (hu : ¬ kyL (coT t f B xs p s) (cT t s t.T.length) (kT t f B xs p s) (lT t f B xs p s) = true) : lT t f B xs p (s + 1) = lT t f B xs p s ∧ kT t f B xs p (s + 1) = kT t f B xs p s := by
  have e : seT t f B xs p (s + 1) = seT t f B xs p s := by
    unfold seT at *
    rw [sel, ho]
    simp only [if_true]
    unfold kT lT seT at hu
    cases e : sel (okT t f B) (coT t f B xs p) (fun s => cT t s t.T.length) s with
    | none =>
      rw [e] at hu
      exact absurd (kyL_t.2 (.inl hc)) hu
    | some r =>
      rw [e] at hu
      simp only at hu ⊢
      rw [if_neg hu]
  unfold lT kT
  rw [e]
  exact ⟨rfl, rfl⟩
theorem lT_len {t : Tab} {f : Flt} {B : List (List Int)} {xs : List Dly} {p : Int} {s : Nat} : (lT t f B xs p s).length ≤ t.T.length := by
  unfold lT
  cases seT t f B xs p s with
  | none => exact Nat.zero_le _
  | some m => exact cT_len
set_option maxHeartbeats 4000000 in
theorem cg_iBst {e1 e2 e3 : Option TypeId} (t : Tab) (f : Flt) (B : List (List Int)) (xs : List Dly) (p : Int) : CTG Tryz.prog 13 [.inr (uA bTab t), .inr (uA bFlt f), .inr (uS e1 (pS e2 pI) B), .inr (uS e3 pDly xs), .inl (.int .i64 p)] (fun s => .inr (uT [.inr (uO s oIntS (bsR t f B xs p)), .inl (.int .i64 (bsS t f B xs p)), .inl (.bool (bsOk t f B xs p))])) := by
  refine CTG_of Tryz.func13 rfl rfl rfl (fun w s hs => ?_)
  have hC := upC_ext w
  have hA := ct_areLate (e1 := e1) (e2 := e2) (e3 := e3) t f B xs
  cases h : latB t f B xs
  · rw [h] at hA
    try any_goals ((refine H_seq ?_; try refine H_reg ?_))
    try any_goals (refine W_boxA (d := 5) (sq_stepper hC) rfl rfl rfl ?_)
    try any_goals (refine W_boxA (d := 6) (sq_stepper hC) rfl rfl rfl ?_)
    try any_goals (refine W_assign (d := 10) (sq_stepper hC) rfl rfl rfl ?_)
    try any_goals (refine W_assign (d := 11) (sq_stepper hC) rfl rfl rfl ?_)
    try any_goals (refine W_assign (d := 12) (sq_stepper hC) rfl rfl rfl ?_)
    try any_goals ((refine Sq_nil ?_; try refine G_then ?_))
    try any_goals (refine H_seq ?_)
    try any_goals ((refine H_seq ?_; try refine H_reg ?_))
    try any_goals (refine W_loadA (d := 20) (sq_stepper hC) (by kernel_rfl) rfl rfl rfl ?_)
    try any_goals (refine W_loadA (d := 21) (sq_stepper hC) (by kernel_rfl) rfl rfl rfl ?_)
    try any_goals (refine W_move (d := 22) (sq_stepper hC) rfl rfl rfl ?_)
    try any_goals (refine W_move (d := 23) (sq_stepper hC) rfl rfl rfl ?_)
    try any_goals (refine W_ct (d := 24) (sq_stepper hC) (hA) rfl rfl rfl (by kernel_rfl) ?_)
    try any_goals (refine W_not (d := 25) (sq_stepper hC) rfl rfl rfl ?_)
    try any_goals (refine W_move (d := 26) (sq_stepper hC) rfl rfl rfl ?_)
    try any_goals ((refine W_splitG (sq_stepper hC) _ rfl _ rfl (fun hq => ?_) (fun hq => ?_) <;> ((try simp only [hqs, reduceCtorEq] at hq); try (have hq' := hq; clear hq))))
    try any_goals (refine W_skip (d := 27) (sq_stepper hC) rfl rfl ?_)
    try any_goals (refine W_skip (d := 28) (sq_stepper hC) rfl rfl ?_)
    try any_goals (refine W_skip (d := 29) (sq_stepper hC) rfl rfl ?_)
    try any_goals (refine W_pickT (d := 30) (sq_stepper hC) rfl rfl rfl rfl ?_)
    try any_goals ((refine Sq_nil ?_; try refine G_then ?_))
    try any_goals (refine H_condT rfl ?_)
    try any_goals ((refine H_seq ?_; try refine H_reg ?_))
    try any_goals (refine W_assign (d := 10) (sq_stepper hC) rfl rfl rfl ?_)
    try any_goals (refine W_assign (d := 11) (sq_stepper hC) rfl rfl rfl ?_)
    try any_goals (refine W_assign (d := 12) (sq_stepper hC) rfl rfl rfl ?_)
    try any_goals ((refine Sq_nil ?_; try refine G_then ?_))
    try any_goals (refine H_ret ?_)
    repeat (any_goals (first | refine G_ret_then ?_ | refine G_ret_block ?_))
    repeat (any_goals (first | refine G_exit_then ?_ | refine G_exit_here ?_ | refine G_exit_far rfl ?_))
    repeat (any_goals (first | refine G_exit_then ?_ | refine G_exit_here ?_ | refine G_exit_far rfl ?_))
    repeat (any_goals (first | refine G_exit_then ?_ | refine G_exit_here ?_ | refine G_exit_far rfl ?_ | refine G_normal_block ?_))
    repeat (any_goals (first | refine G_exit_then ?_ | refine G_exit_here ?_ | refine G_exit_far rfl ?_ | refine G_normal_block ?_))
    repeat (any_goals (first | refine G_exit_then ?_ | refine G_exit_here ?_ | refine G_exit_far rfl ?_))
    repeat (any_goals (first | refine G_exit_then ?_ | refine G_exit_here ?_ | refine G_exit_far rfl ?_ | refine G_normal_block ?_))
    repeat (any_goals (first | refine G_exit_then ?_ | refine G_exit_here ?_ | refine G_exit_far rfl ?_ | refine G_normal_block ?_))
    repeat (any_goals (first | refine G_ret_then ?_ | refine G_ret_block ?_))
    all_goals first
      | exact R3 rfl (fun _ h => h) rfl rfl rfl (fun v w' _ hv => by rw [bsR_n (bsOk_n h), show v = _ from hv]; exact nil_OS) (fun v w' _ hv => by rw [bsS_n (bsOk_n h)]; exact hv) (fun v w' _ hv => by rw [bsOk_n h]; exact hv)
      | trace_state
  · rw [h] at hA
    have hk := latB_bl h
    have hm := latB_mn h
    have hP := latB_prt h
    have hln := hk.len
    have h12 := (tabB_k hk.hv).2.1
    have hpw := pow12 (j := t.T.length) (by omega)
    try any_goals ((refine H_seq ?_; try refine H_reg ?_))
    try any_goals (refine W_boxA (d := 5) (sq_stepper hC) rfl rfl rfl ?_)
    try any_goals (refine W_boxA (d := 6) (sq_stepper hC) rfl rfl rfl ?_)
    try any_goals (refine W_assign (d := 10) (sq_stepper hC) rfl rfl rfl ?_)
    try any_goals (refine W_assign (d := 11) (sq_stepper hC) rfl rfl rfl ?_)
    try any_goals (refine W_assign (d := 12) (sq_stepper hC) rfl rfl rfl ?_)
    try any_goals ((refine Sq_nil ?_; try refine G_then ?_))
    try any_goals (refine H_seq ?_)
    try any_goals ((refine H_seq ?_; try refine H_reg ?_))
    try any_goals (refine W_loadA (d := 20) (sq_stepper hC) (by kernel_rfl) rfl rfl rfl ?_)
    try any_goals (refine W_loadA (d := 21) (sq_stepper hC) (by kernel_rfl) rfl rfl rfl ?_)
    try any_goals (refine W_move (d := 22) (sq_stepper hC) rfl rfl rfl ?_)
    try any_goals (refine W_move (d := 23) (sq_stepper hC) rfl rfl rfl ?_)
    try any_goals (refine W_ct (d := 24) (sq_stepper hC) (hA) rfl rfl rfl (by kernel_rfl) ?_)
    try any_goals (refine W_not (d := 25) (sq_stepper hC) rfl rfl rfl ?_)
    try any_goals (refine W_move (d := 26) (sq_stepper hC) rfl rfl rfl ?_)
    try any_goals ((refine W_splitG (sq_stepper hC) _ rfl _ rfl (fun hq => ?_) (fun hq => ?_) <;> ((try simp only [hqs, reduceCtorEq] at hq); try (have hq' := hq; clear hq))))
    try any_goals (refine W_move (d := 27) (sq_stepper hC) rfl rfl rfl ?_)
    try any_goals (refine W_ct (d := 28) (sq_stepper hC) (ct_isPenalty _) rfl rfl rfl (by kernel_rfl) ?_)
    try any_goals (refine W_not (d := 29) (sq_stepper hC) rfl rfl rfl ?_)
    try any_goals (refine W_pickF (d := 30) (sq_stepper hC) rfl rfl rfl rfl ?_)
    try any_goals ((refine Sq_nil ?_; try refine G_then ?_))
    try any_goals ((refine H_cond _ rfl (fun hq => ?_) (fun hq => Wt.un 0 ?_) <;> (try simp only [hqs, reduceCtorEq] at hq)))
    try any_goals ((refine H_seq ?_; try refine H_reg ?_))
    try any_goals (refine W_assign (d := 10) (sq_stepper hC) rfl rfl rfl ?_)
    try any_goals (refine W_assign (d := 11) (sq_stepper hC) rfl rfl rfl ?_)
    try any_goals (refine W_assign (d := 12) (sq_stepper hC) rfl rfl rfl ?_)
    try any_goals ((refine Sq_nil ?_; try refine G_then ?_))
    try any_goals (refine H_ret ?_)
    repeat (any_goals (first | refine G_ret_then ?_ | refine G_ret_block ?_))
    try any_goals (refine Wt.out 0 ?_)
    try any_goals (refine H_skip ?_)
    try any_goals (refine G_then ?_)
    try any_goals (refine H_seq ?_)
    try any_goals (have hp : 0 ≤ p ∧ p ≤ 1000 := (by omega))
    try any_goals (refine H_reg ?_)
    try any_goals (refine W_assign (d := 13) (sq_stepper hC) rfl rfl rfl ?_)
    try any_goals ((refine Sq_nil ?_; try refine G_then ?_))
    try any_goals ((refine H_seq ?_; try refine H_reg ?_))
    try any_goals (refine W_assign (d := 14) (sq_stepper hC) rfl rfl rfl ?_)
    try any_goals ((refine Sq_nil ?_; try refine G_then ?_))
    try any_goals (refine H_seq ?_)
    try any_goals (refine H_seq ?_)
    try any_goals (have hE : Ext _ _ := Ext.refl w)
    try any_goals (refine H_open 2 rfl (fun q u2 hw hr2 => ?_); have hE := hE.trans hw)
    try any_goals (refine H_open 3 rfl (fun q u3 hw hr3 => ?_); have hE := hE.trans hw; have hr2 := UR.lift hw hr2)
    try any_goals (refine H_open 5 rfl (fun q u5 hw hr5 => ?_); have hE := hE.trans hw; have hr2 := UR.lift hw hr2; have hr3 := UR.lift hw hr3)
    try any_goals (refine H_open 6 rfl (fun q u6 hw hr6 => ?_); have hE := hE.trans hw; have hr2 := UR.lift hw hr2; have hr3 := UR.lift hw hr3; have hr5 := UR.lift hw hr5)
    try any_goals (refine H_weakenC (C' := Sep q []) (fun w' h => sep_start h) ?_; have hC : UpC (Sep q []) := upC_sep)
    try any_goals ((obtain ⟨b, o, vT, rfl, hcT, hiT⟩ := tabP_open hr5))
    try any_goals (refine H_reg ?_)
    try any_goals (refine W_fieldC (d := 31) (sq_stepper upC_sep) (off := 2) (by kernel_rfl) rfl rfl rfl ?_)
    try any_goals (refine W_loadO (d := 32) (sq_stepper upC_sep) (by kernel_rfl) rfl rfl rfl (fun w' h => (Sep.ext h).cell hcT) ?_)
    try any_goals (refine W_lenR (d := 33) (sq_stepper upC_sep) (xs := t.T) (fun w' h => IsS.up (Sep.ext h) hiT) (by kernel_rfl) rfl rfl rfl ?_)
    try any_goals (refine W_shl1 (d := 34) (sq_stepper upC_sep) rfl rfl rfl rfl (by omega) ?_)
    try any_goals (refine W_move (d := 35) (sq_stepper upC_sep) rfl rfl rfl ?_)
    try any_goals ((refine Sq_nil ?_; try refine G_then ?_))
    try any_goals (refine H_block ?_)
    try any_goals ((refine H_loop (σ := Nat × Value) (fun x => x.1 ≤ 2 ^ t.T.length) (fun x => [(2, .inl u2), (3, .inl u3), (4, .inl (.int .i64 p)), (5, .inl (.pointer (some ⟨b, o, none⟩))), (6, .inl u6), (13, .inl x.2), (14, .inl (.int .i64 (kT t f B xs p x.1))), (34, .inl (.int .i64 ((2 ^ t.T.length : Nat) : Int))), (35, .inl (.int .i64 x.1))]) (fun x => Sep q [.sl Int 3 pI (lT t f B xs p x.1) x.2]) (fun x => 2 ^ t.T.length - x.1) (0, .slice none 0 0) (Nat.zero_le _) (fun a w' h => h.sub (by repeat (first | exact trivial | refine ⟨⟨_, rfl, fun _ _ _ h => h⟩, ?_⟩ | refine ⟨⟨_, rfl, fun v w _ h => (show v = _ from h).trans (congrArg (Value.int .i64) (by first | omega | (dsimp only; omega)))⟩, ?_⟩)) (fun w' h => Sep.emp (p := none) Int 3 pI h)) (fun x hx => ?_); obtain ⟨s9, vb⟩ := x; simp only at hx; have hcb := coT_bd hk hm hp (s := s9); have hll := lT_len (t := t) (f := f) (B := B) (xs := xs) (p := p) (s := s9)))
    try any_goals ((refine H_seq ?_; try refine H_reg ?_))
    try any_goals (refine W_cmp (d := 36) (sq_stepper upC_sep) rfl rfl rfl rfl rfl ?_)
    try any_goals ((refine Sq_nil ?_; try refine G_then ?_))
    try any_goals (refine H_seq ?_)
    try any_goals ((refine H_cond _ rfl (fun hq => ?_) (fun hq => Wt.un 2 ?_) <;> (try simp only [hqs, reduceCtorEq] at hq)))
    try any_goals (refine H_skip ?_)
    try any_goals (refine G_hold 3 ?_)
    try any_goals (refine Wt.out 2 ?_)
    try any_goals (refine H_exit ?_)
    repeat (any_goals (first | refine G_exit_then ?_ | refine G_exit_here ?_ | refine G_exit_far rfl ?_))
    try any_goals (refine G_hold 4 ?_)
    try any_goals (refine Wt.out 3 ?_)
    try any_goals (refine G_then ?_)
    try any_goals (refine H_seq ?_)
    try any_goals (refine H_block ?_)
    try any_goals ((refine H_seq ?_; try refine H_reg ?_))
    try any_goals (refine W_move (d := 37) (sq_stepper upC_sep) rfl rfl rfl ?_)
    try any_goals (refine W_assign (d := 15) (sq_stepper upC_sep) rfl rfl rfl ?_)
    try any_goals ((refine Sq_nil ?_; try refine G_then ?_))
    try any_goals ((refine H_seq ?_; try refine H_reg ?_))
    try any_goals (refine W_assign (d := 16) (sq_stepper upC_sep) rfl rfl rfl ?_)
    try any_goals ((refine Sq_nil ?_; try refine G_then ?_))
    try any_goals (refine H_seq ?_)
    try any_goals ((refine H_seq ?_; try refine H_reg ?_))
    try any_goals (refine W_fieldC (d := 38) (sq_stepper upC_sep) (off := 2) (by kernel_rfl) rfl rfl rfl ?_)
    try any_goals (refine W_loadO (d := 39) (sq_stepper upC_sep) (by kernel_rfl) rfl rfl rfl (fun w' h => (Sep.ext h).cell hcT) ?_)
    try any_goals (refine W_lenR (d := 40) (sq_stepper upC_sep) (xs := t.T) (fun w' h => IsS.up (Sep.ext h) hiT) (by kernel_rfl) rfl rfl rfl ?_)
    try any_goals (refine W_move (d := 41) (sq_stepper upC_sep) rfl rfl rfl ?_)
    try any_goals ((refine Sq_nil ?_; try refine G_then ?_))
    try any_goals (refine H_block ?_)
    try any_goals ((refine H_loop (σ := Nat × Value) (fun x => x.1 ≤ t.T.length) (fun x => [(2, .inl u2), (3, .inl u3), (4, .inl (.int .i64 p)), (5, .inl (.pointer (some ⟨b, o, none⟩))), (6, .inl u6), (13, .inl vb), (14, .inl (.int .i64 (kT t f B xs p s9))), (15, .inl (.int .i64 s9)), (16, .inl x.2), (34, .inl (.int .i64 ((2 ^ t.T.length : Nat) : Int))), (35, .inl (.int .i64 s9)), (39, .inl vT), (40, .inl (.int .i64 t.T.length)), (41, .inl (.int .i64 x.1))]) (fun x => Sep q [.sl Int 3 pI (cT t s9 x.1) x.2, .sl Int 3 pI (lT t f B xs p s9) vb]) (fun x => t.T.length - x.1) (0, .slice none 0 0) (Nat.zero_le _) (fun a w' h => h.sub (by repeat (first | exact trivial | refine ⟨⟨_, rfl, fun _ _ _ h => h⟩, ?_⟩ | refine ⟨⟨_, rfl, fun v w _ h => (show v = _ from h).trans (congrArg (Value.int .i64) (by first | omega | (dsimp only; omega)))⟩, ?_⟩)) (fun w' h => Sep.emp (p := none) Int 3 pI h)) (fun x hx => ?_); obtain ⟨i, vc⟩ := x; simp only at hx; have hcl := cT_len (t := t) (s := s9) (k := i)))
    try any_goals ((refine H_seq ?_; try refine H_reg ?_))
    try any_goals (refine W_cmp (d := 42) (sq_stepper upC_sep) rfl rfl rfl rfl rfl ?_)
    try any_goals ((refine Sq_nil ?_; try refine G_then ?_))
    try any_goals (refine H_seq ?_)
    try any_goals ((refine H_cond _ rfl (fun hq => ?_) (fun hq => Wt.un 5 ?_) <;> (try simp only [hqs, reduceCtorEq] at hq)))
    try any_goals (refine H_skip ?_)
    try any_goals (refine G_hold 6 ?_)
    try any_goals (refine Wt.out 5 ?_)
    try any_goals (refine H_exit ?_)
    repeat (any_goals (first | refine G_exit_then ?_ | refine G_exit_here ?_ | refine G_exit_far rfl ?_))
    try any_goals (refine G_hold 7 ?_)
    try any_goals (refine Wt.out 6 ?_)
    try any_goals (refine G_then ?_)
    try any_goals (refine H_seq ?_)
    try any_goals (refine H_block ?_)
    try any_goals ((refine H_seq ?_; try refine H_reg ?_))
    try any_goals (refine W_move (d := 43) (sq_stepper upC_sep) rfl rfl rfl ?_)
    try any_goals (refine W_indexR (d := 44) (sq_stepper upC_sep) (xs := t.T) (fun w' h => IsS.up (Sep.ext h) hiT) (by kernel_rfl) rfl rfl rfl rfl (by omega) ?_)
    try any_goals (refine W_loadA (d := 45) (sq_stepper upC_sep) (by kernel_rfl) rfl rfl rfl ?_)
    try any_goals (refine Sq_allocL (d := 18) pTrp default [.int .i64 0, .int .i64 0, .int .i64 0] (by kernel_rfl) (fun w => ⟨[_], _, rfl, rfl, [_], _, rfl, rfl, [_], _, rfl, rfl, rfl⟩) (by kernel_rfl) rfl (fun v18 => ?_))
    try any_goals (refine W_assign (d := 17) (sq_stepper upC_sep) rfl rfl rfl ?_)
    try any_goals ((refine Sq_storeO1 0 (n := 3) (ix t.T i) rfl ⟨⟨trivial, trivial, trivial, trivial⟩, trivial, trivial, trivial⟩ rfl (by kernel_rfl) (Nat.le_refl _) rfl rfl hp_A ?_))
    try any_goals ((refine Sq_nil ?_; try refine G_then ?_))
    try any_goals ((refine H_seq ?_; try refine H_reg ?_))
    try any_goals (refine W_move (d := 46) (sq_stepper upC_sep) rfl rfl rfl ?_)
    try any_goals (refine W_move (d := 47) (sq_stepper upC_sep) rfl rfl rfl ?_)
    try any_goals (refine W_shrN (d := 48) (sq_stepper upC_sep) rfl rfl rfl rfl (by omega) ?_)
    try any_goals (refine W_and1 (d := 49) (sq_stepper upC_sep) rfl rfl rfl rfl ?_)
    try any_goals (refine W_cmp (d := 50) (sq_stepper upC_sep) rfl rfl rfl rfl rfl ?_)
    try any_goals ((refine Sq_nil ?_; try refine G_then ?_))
    try any_goals ((refine H_cond _ rfl (fun hq => ?_) (fun hq => Wt.un 8 ?_) <;> (try simp only [hqs, reduceCtorEq] at hq)))
    try any_goals (refine H_reg ?_)
    try any_goals (refine W_move (d := 51) (sq_stepper upC_sep) rfl rfl rfl ?_)
    try any_goals (refine W_fieldS (d := 52) 0 (off := 0) (sq_stepper upC_sep) rfl (by first | omega | (simp; done) | (simp; omega)) (by kernel_rfl) rfl rfl rfl ?_)
    try any_goals (refine W_load1 (d := 53) 0 (sq_stepper upC_sep) (Θ := pI) (q := Trp.I) _ rfl (Proj.head _ _ _) mk_I rfl (by kernel_rfl) rfl rfl rfl ?_)
    try any_goals (refine W_buildS (d := 54) (sq_stepper upC_sep) [(Operand.tmp 53)] pI [_] (e := 3) (by kernel_rfl) (by kernel_rfl) rfl rfl (by kernel_rfl) rfl rfl rfl ⟨elem_I, trivial⟩ ?_)
    try any_goals ((refine Sq_appS (d := 55) 1 (Ψ := pI) rfl ⟨⟨trivial, trivial, trivial, trivial⟩, trivial, trivial, trivial⟩ (by kernel_rfl) (by kernel_rfl) rfl rfl rfl ⟨by simp only [List.length_cons, List.length_nil]; omega, by simp⟩ (fun va => ?_)))
    try any_goals (refine W_assign (d := 16) (sq_stepper upC_sep) rfl rfl rfl ?_)
    try any_goals (refine Sq_nil ?_)
    try any_goals (refine Wt.out 8 ?_)
    try any_goals (refine H_skip ?_)
    repeat (any_goals (first | refine G_exit_then ?_ | refine G_exit_here ?_ | refine G_exit_far rfl ?_ | refine G_normal_block ?_))
    try any_goals (refine G_then ?_)
    try any_goals (refine H_reg ?_)
    try any_goals (refine W_ar (d := 56) (sq_stepper upC_sep) rfl rfl rfl rfl rfl (by first | omega | (dsimp only; omega)) ?_)
    try any_goals (refine W_move (d := 41) (sq_stepper upC_sep) rfl rfl rfl ?_)
    try any_goals (refine Sq_nil ?_)
    try any_goals (first | exact G_again (i + 1, va) (by dsimp only; omega) (by dsimp only; omega) (by repeat (first | exact trivial | refine ⟨⟨_, rfl, fun _ _ _ h => h⟩, ?_⟩ | refine ⟨⟨_, rfl, fun v w _ h => (show v = _ from h).trans (congrArg (Value.int .i64) (by first | omega | (dsimp only; omega)))⟩, ?_⟩)) (fun w' h => by dsimp only; rw [cT_y hq]; exact h.drop) | exact G_again (i + 1, vc) (by dsimp only; omega) (by dsimp only; omega) (by repeat (first | exact trivial | refine ⟨⟨_, rfl, fun _ _ _ h => h⟩, ?_⟩ | refine ⟨⟨_, rfl, fun v w _ h => (show v = _ from h).trans (congrArg (Value.int .i64) (by first | omega | (dsimp only; omega)))⟩, ?_⟩)) (fun w' h => by dsimp only; rw [cT_n hq]; exact h.drop))
    try any_goals (refine Wt.out 7 ?_)
    repeat (any_goals (first | refine G_exit_then ?_ | refine G_exit_here ?_ | refine G_exit_far rfl ?_ | refine G_normal_block ?_))
    try any_goals (refine G_then ?_)
    try any_goals (refine H_seq ?_)
    try any_goals (refine H_seq ?_)
    try any_goals ((by_cases hie : i = t.T.length; rotate_left; exfalso; omega; subst hie))
    try any_goals (refine H_reg ?_)
    try any_goals (refine W_loadUP (d := 57) (sq_stepper upC_sep) (fun w' h => UR.lift (Sep.ext h) hr5) (by kernel_rfl) rfl rfl rfl ?_)
    try any_goals (refine W_loadUP (d := 58) (sq_stepper upC_sep) (fun w' h => UR.lift (Sep.ext h) hr6) (by kernel_rfl) rfl rfl rfl ?_)
    try any_goals (refine W_moveR (d := 59) (sq_stepper upC_sep) (U := uS e1 (pS e2 pI) B) (fun w' h => UR.lift (Sep.ext h) hr2) rfl rfl rfl ?_)
    try any_goals (refine W_moveR (d := 60) (sq_stepper upC_sep) (U := uS (some 3) pI (cT t s9 t.T.length)) (fun w' h => Sep.isS (m := 0) h rfl) rfl rfl rfl ?_)
    try any_goals (refine W_ct (d := 61) (sq_stepper upC_sep) (ct_isPossible t f B (cT t s9 t.T.length) hk) rfl rfl rfl (by kernel_rfl) ?_)
    try any_goals (refine W_not (d := 62) (sq_stepper upC_sep) rfl rfl rfl ?_)
    try any_goals ((refine Sq_nil ?_; try refine G_then ?_))
    try any_goals ((refine H_cond _ rfl (fun hq => ?_) (fun hq => Wt.un 10 ?_) <;> (try simp only [hqs, reduceCtorEq] at hq)))
    try any_goals (refine H_exit ?_)
    repeat (any_goals (first | refine G_exit_then ?_ | refine G_exit_here ?_ | refine G_exit_far rfl ?_))
    try any_goals (refine G_hold 12 ?_)
    try any_goals (refine Wt.out 10 ?_)
    try any_goals (refine H_skip ?_)
    try any_goals (refine G_then ?_)
    try any_goals ((refine H_seq ?_; try refine H_reg ?_))
    try any_goals (refine W_loadUP (d := 63) (sq_stepper upC_sep) (fun w' h => UR.lift (Sep.ext h) hr5) (by kernel_rfl) rfl rfl rfl ?_)
    try any_goals (refine W_loadUP (d := 64) (sq_stepper upC_sep) (fun w' h => UR.lift (Sep.ext h) hr6) (by kernel_rfl) rfl rfl rfl ?_)
    try any_goals (refine W_moveR (d := 65) (sq_stepper upC_sep) (U := uS e1 (pS e2 pI) B) (fun w' h => UR.lift (Sep.ext h) hr2) rfl rfl rfl ?_)
    try any_goals (refine W_moveR (d := 66) (sq_stepper upC_sep) (U := uS e3 pDly xs) (fun w' h => UR.lift (Sep.ext h) hr3) rfl rfl rfl ?_)
    try any_goals (refine W_move (d := 67) (sq_stepper upC_sep) rfl rfl rfl ?_)
    try any_goals (refine W_moveR (d := 68) (sq_stepper upC_sep) (U := uS (some 3) pI (cT t s9 t.T.length)) (fun w' h => Sep.isS (m := 0) h rfl) rfl rfl rfl ?_)
    try any_goals (refine W_ct (d := 69) (sq_stepper upC_sep) (ct_choiceCost t f B xs p (cT t s9 t.T.length) hk hm hp (cT_can hk.hv)) rfl rfl rfl (by kernel_rfl) ?_)
    try any_goals (refine W_assign (d := 19) (sq_stepper upC_sep) rfl rfl rfl ?_)
    try any_goals ((refine Sq_nil ?_; try refine G_then ?_))
    try any_goals ((refine H_seq ?_; try refine H_reg ?_))
    try any_goals (refine W_move (d := 70) (sq_stepper upC_sep) rfl rfl rfl ?_)
    try any_goals (refine W_move (d := 71) (sq_stepper upC_sep) rfl rfl rfl ?_)
    try any_goals (refine W_ct (d := 72) (sq_stepper upC_sep) (ct_Compare _ _) rfl rfl rfl (by kernel_rfl) ?_)
    try any_goals (refine W_moveR (d := 73) (sq_stepper upC_sep) (U := uS (some 3) pI (cT t s9 t.T.length)) (fun w' h => Sep.isS (m := 0) h rfl) rfl rfl rfl ?_)
    try any_goals (refine W_len (d := 74) (sq_stepper upC_sep) (by kernel_rfl) rfl rfl rfl ?_)
    try any_goals (refine W_moveR (d := 75) (sq_stepper upC_sep) (U := uS (some 3) pI (lT t f B xs p s9)) (fun w' h => Sep.isS (m := 1) h rfl) rfl rfl rfl ?_)
    try any_goals (refine W_len (d := 76) (sq_stepper upC_sep) (by kernel_rfl) rfl rfl rfl ?_)
    try any_goals (refine W_ct (d := 77) (sq_stepper upC_sep) (ct_Compare _ _) rfl rfl rfl (by kernel_rfl) ?_)
    try any_goals (refine W_moveR (d := 78) (sq_stepper upC_sep) (U := uS (some 3) pI (cT t s9 t.T.length)) (fun w' h => Sep.isS (m := 0) h rfl) rfl rfl rfl ?_)
    try any_goals (refine W_moveR (d := 79) (sq_stepper upC_sep) (U := uS (some 3) pI (lT t f B xs p s9)) (fun w' h => Sep.isS (m := 1) h rfl) rfl rfl rfl ?_)
    try any_goals (refine W_ct (d := 80) (sq_stepper upC_sep) (ct_Compare2 _ _) rfl rfl rfl (by kernel_rfl) ?_)
    try any_goals (refine W_buildS (d := 81) (sq_stepper upC_sep) [(Operand.tmp 72), (Operand.tmp 77), (Operand.tmp 80)] pI [_, _, _] (e := 3) (by kernel_rfl) (by kernel_rfl) rfl rfl (by kernel_rfl) rfl rfl rfl ⟨elem_I, elem_I, elem_I, trivial⟩ ?_)
    try any_goals (refine W_ct (d := 82) (sq_stepper upC_sep) (ct_Or _) rfl rfl rfl (by kernel_rfl) ?_)
    try any_goals (refine W_cmp (d := 83) (sq_stepper upC_sep) rfl rfl rfl rfl rfl ?_)
    try any_goals ((refine Sq_nil ?_; try refine G_then ?_))
    try any_goals ((refine H_cond _ rfl (fun hq => ?_) (fun hq => Wt.un 13 ?_) <;> (try simp only [hqs, reduceCtorEq] at hq)))
    try any_goals (refine H_reg ?_)
    try any_goals (refine W_move (d := 84) (sq_stepper upC_sep) rfl rfl rfl ?_)
    try any_goals (refine W_move (d := 85) (sq_stepper upC_sep) rfl rfl rfl ?_)
    try any_goals (refine W_assign (d := 13) (sq_stepper upC_sep) rfl rfl rfl ?_)
    try any_goals (refine W_assign (d := 14) (sq_stepper upC_sep) rfl rfl rfl ?_)
    try any_goals (refine Sq_nil ?_)
    try any_goals (refine Wt.out 13 ?_)
    try any_goals (refine H_skip ?_)
    try any_goals (refine Wt.out 12 ?_)
    repeat (any_goals (first | refine G_exit_then ?_ | refine G_exit_here ?_ | refine G_exit_far rfl ?_ | refine G_normal_block ?_))
    try any_goals (refine G_then ?_)
    try any_goals (refine H_reg ?_)
    try any_goals (refine W_ar (d := 86) (sq_stepper upC_sep) rfl rfl rfl rfl rfl (by first | omega | (dsimp only; omega)) ?_)
    try any_goals (refine W_move (d := 35) (sq_stepper upC_sep) rfl rfl rfl ?_)
    try any_goals (refine Sq_nil ?_)
    try any_goals (first | (have hs := tT_no (t := t) (f := f) (B := B) (xs := xs) (p := p) (s := s9) (by assumption); exact G_again (s9 + 1, vb) (by dsimp only; omega) (by dsimp only; omega) (by dsimp only; rw [hs.2]; exact (by repeat (first | exact trivial | refine ⟨⟨_, rfl, fun _ _ _ h => h⟩, ?_⟩ | refine ⟨⟨_, rfl, fun v w _ h => (show v = _ from h).trans (congrArg (Value.int .i64) (by first | omega | (dsimp only; omega)))⟩, ?_⟩))) (fun w' h => by dsimp only; rw [hs.1]; exact h.drop)) | (have ho : okT t f B s9 = true := (by assumption); have hu := or_ky.1 hq; have hs := tT_up ho hu; exact G_again (s9 + 1, vc) (by dsimp only; omega) (by dsimp only; omega) (by dsimp only; rw [hs.2]; exact (by repeat (first | exact trivial | refine ⟨⟨_, rfl, fun _ _ _ h => h⟩, ?_⟩ | refine ⟨⟨_, rfl, fun v w _ h => (show v = _ from h).trans (congrArg (Value.int .i64) (by first | omega | (dsimp only; omega)))⟩, ?_⟩))) (fun w' h => by dsimp only; rw [hs.1]; exact h.drop1)) | (have ho : okT t f B s9 = true := (by assumption); have hu : ¬ kyL (coT t f B xs p s9) (cT t s9 t.T.length) (kT t f B xs p s9) (lT t f B xs p s9) = true := (fun h9 => absurd (or_ky.2 h9) (Int.not_lt.2 hq)); have hc9 : coT t f B xs p s9 < 1073741824 := (by omega); have hs := tT_same hc9 ho hu; exact G_again (s9 + 1, vb) (by dsimp only; omega) (by dsimp only; omega) (by dsimp only; rw [hs.2]; exact (by repeat (first | exact trivial | refine ⟨⟨_, rfl, fun _ _ _ h => h⟩, ?_⟩ | refine ⟨⟨_, rfl, fun v w _ h => (show v = _ from h).trans (congrArg (Value.int .i64) (by first | omega | (dsimp only; omega)))⟩, ?_⟩))) (fun w' h => by dsimp only; rw [hs.1]; exact h.drop)))
    try any_goals (refine Wt.out 4 ?_)
    repeat (any_goals (first | refine G_exit_then ?_ | refine G_exit_here ?_ | refine G_exit_far rfl ?_ | refine G_normal_block ?_))
    try any_goals (refine G_then ?_)
    try any_goals ((refine H_seq ?_; try refine H_reg ?_))
    try any_goals (refine W_move (d := 87) (sq_stepper upC_sep) rfl rfl rfl ?_)
    try any_goals (refine W_move (d := 88) (sq_stepper upC_sep) rfl rfl rfl ?_)
    try any_goals (refine W_assign (d := 10) (sq_stepper upC_sep) rfl rfl rfl ?_)
    try any_goals (refine W_assign (d := 11) (sq_stepper upC_sep) rfl rfl rfl ?_)
    try any_goals (refine W_assign (d := 12) (sq_stepper upC_sep) rfl rfl rfl ?_)
    try any_goals ((refine Sq_nil ?_; try refine G_then ?_))
    try any_goals (refine H_ret ?_)
    repeat (any_goals (first | refine G_ret_then ?_ | refine G_ret_block ?_))
    all_goals (try dsimp only)
    all_goals first
      | exact R3 rfl (fun _ h => h) rfl rfl rfl (fun v w' _ hv => by rw [bsR_n (bsOk_n2 (by omega)), show v = _ from hv]; exact nil_OS) (fun v w' _ hv => by rw [bsS_n (bsOk_n2 (by omega))]; exact hv) (fun v w' _ hv => by rw [bsOk_n2 (by omega)]; exact hv)
      | (have e : s9 = 2 ^ t.T.length := by omega
         subst e
         have hy := bsOk_y h hp
         obtain ⟨e1, e2⟩ := bst_all (p := p) hk hm hP
         exact R3 rfl (fun _ h => hE.trans h.ext) rfl rfl rfl (fun v w' hc hv => by rw [bsR_y hy, ← e1, show v = _ from hv]; exact hc.isO (m := 0) rfl (Nat.le_trans hs hE.size)) (fun v w' _ hv => by rw [bsS_y hy, ← e2]; exact hv) (fun v w' _ hv => by rw [hy]; exact hv))
      | trace_state
end Go.Proofs.YtanlaggnhocjhaaGreat

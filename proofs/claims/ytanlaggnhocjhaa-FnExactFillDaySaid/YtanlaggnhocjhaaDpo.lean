/- Depots in memory of one's own: copied. -/
import Derived.Test.YtanlaggnhocjhaaBlo
import Derived.Test.YtanlaggnhocjhaaDpv
import Derived.Test.YtanlaggnhocjhaaDrs
import Derived.Test.YtanlaggnhocjhaaRes
namespace Go.Proofs.Ytanlaggnhocjhaa
set_option linter.unusedSimpArgs false
set_option linter.unusedVariables false
open Go.RowKit Go.ChangeShapes Go.WideShapes Go.ChangeAt Go.Deep
def dpL (d : Dep) (vS vT : Value) (vs : List Value) : List Osl := .sl Int 3 pI d.S vS :: .sl Value 39 pV vs vT :: rowsZ d.T vs
theorem dpL_row {d : Dep} {vS vT : Value} {vs : List Value} {L0 : List Osl} {i : Nat} (hl : vs.length = d.T.length) (hi : i < d.T.length) : (dpL d vS vT vs ++ L0)[i + 2]? = some (.sl Int 3 pI (ix d.T i) (ix vs i)) := by
  have h := rowsZ_get (ls := d.T) (vs := vs) (i := i) hl.symm hi
  have h2 : (dpL d vS vT vs)[i + 2]? = some (.sl Int 3 pI (ix d.T i) (ix vs i)) := h
  rw [List.getElem?_append_left (List.getElem?_eq_some_iff.1 h2).1]
  exact h2
theorem Sep.depT {w0 w : World} {d : Dep} {vS vT : Value} {vs : List Value} {L0 : List Osl} (h : Sep w0 (dpL d vS vT vs ++ L0) w) (hl : vs.length = d.T.length) : IsS (some 39) (pS (some 3) pI) d.T vT w :=
  isS_rows hl.symm (h.isS (m := 1) rfl) fun i hi => h.isS (dpL_row hl hi)
theorem Sep.dep {w0 w : World} {d : Dep} {vS vT : Value} {vs : List Value} {L0 : List Osl} (h : Sep w0 (dpL d vS vT vs ++ L0) w) (hl : vs.length = d.T.length) : (uA bDep d).R (.agg (([vS, vT] : List Value)).toArray) w :=
  ⟨[vS, vT], rfl, [vS], _, rfl, ⟨_, rfl, h.isS (m := 0) rfl⟩, [vT], _, rfl, ⟨_, rfl, h.depT hl⟩, rfl⟩
theorem avAll_dp {d : Dep} {vS vT : Value} {vs : List Value} {L0 : List Osl} {t : TypeId} (h : avAll L0 t) : avAll (dpL d vS vT vs ++ L0) t := avAll.app (L := dpL d vS vT vs) ⟨trivial, trivial, avAll_rows⟩ h
/-! Copies of lists. -/
theorem cx_cloneI {e : Option TypeId} (xs : List Int) (hb : xs.length ≤ 1048576) (w1 : World) : CTX Try.prog 54 (fun u => u = w1) [.inr (uS e pI xs)] (fun (y : Value) w' => Sep w1 [.sl Int 3 pI xs y] w' ∧ True) (fun y => .inl y) := ctg_ctx (cg_cloneI xs hb) w1
theorem cx_own {e : Option TypeId} (xs : List Int) (hb : xs.length ≤ 1048576) (w1 : World) : CTX Try.prog 57 (fun u => u = w1) [.inr (uS e pI xs)] (fun (y : Value) w' => Sep w1 [.sl Int 3 pI xs y] w' ∧ True) (fun y => .inl y) := by
  refine CTX_of Try.func57 rfl rfl rfl ?_
  refine H_weakenC (C' := Ext w1) (fun u hu => by subst hu; exact Ext.refl _) ?_
  have hC := upC_ext w1
  have hE := Ext.refl w1
  try any_goals (first | (refine H_seq ?_; try refine H_reg ?_) | refine H_reg ?_)
  try any_goals (refine W_assign (d := 2) (sq_stepper hC) rfl rfl rfl ?_)
  try any_goals (first | (refine Sq_nil ?_; try refine G_then ?_) | refine G_then ?_)
  try any_goals (refine H_seq ?_)
  try any_goals (have hE : Ext _ _ := Ext.refl w)
  try any_goals (refine H_open 0 rfl (fun q u0 hw hr0 => ?_); have hE := hE.trans hw)
  try any_goals (refine H_weakenC (C' := Sep q []) (fun w' h => sep_start h) ?_; have hC : UpC (Sep q []) := upC_sep)
  try any_goals (refine H_reg ?_)
  try any_goals ((refine Sq_buildS (d := 3) [] pI [] (e := 3) (by kernel_rfl) (by kernel_rfl) rfl rfl (by kernel_rfl) rfl rfl trivial rfl (fun v3 => ?_)))
  try any_goals (refine W_moveR (d := 4) (sq_stepper upC_sep) (U := uS e pI xs) (fun w' h => UR.lift (Sep.ext h) hr0) rfl rfl rfl ?_)
  try any_goals ((refine Sq_appSZ (d := 5) 0 (Ψ := pI) rfl ⟨trivial, trivial⟩ (by kernel_rfl) (by kernel_rfl) rfl rfl rfl (by simp only [List.length_nil]; omega) (fun va => ?_)))
  try any_goals (refine W_assign (d := 2) (sq_stepper upC_sep) rfl rfl rfl ?_)
  try any_goals (first | (refine Sq_nil ?_; try refine G_then ?_) | refine G_then ?_)
  try any_goals (refine H_ret ?_)
  repeat (any_goals (first | refine G_ret_then ?_ | refine G_ret_block ?_))
  all_goals exact RX1 rfl rfl (fun v w' hc hv => ⟨va, ⟨Sep.low hE hc, trivial⟩, hv⟩)
abbrev clC (T : List (List Int)) (vs : List Value) (v : Value) (i : Nat) : List Osl := .sl Value 39 pV (vs ++ List.replicate (T.length - i) (Value.slice none 0 0)) v :: rowsZ (T.take i) vs
theorem cx_copyL {e1 e2 : Option TypeId} (T : List (List Int)) (hl : T.length ≤ 1048576) (hr : ∀ z ∈ T, z.length ≤ 1048576) (w : World) : CTX Try.prog 64 (fun w1 => w1 = w) [.inr (uS e1 (pS e2 pI) T)]
    (fun (y : Value × List Value) w' => Sep w (.sl Value 39 pV y.2 y.1 :: rowsZ T y.2) w' ∧ y.2.length = T.length) (fun y => .inl y.1) := by
  refine CTX_of Try.func64 rfl rfl rfl ?_
  refine H_weakenC (C' := Ext w) (fun w1 h => by subst h; exact Ext.refl _) ?_
  have hC := upC_ext w
  try any_goals (first | (refine H_seq ?_; try refine H_reg ?_) | refine H_reg ?_)
  try any_goals (refine W_assign (d := 2) (sq_stepper hC) rfl rfl rfl ?_)
  try any_goals (first | (refine Sq_nil ?_; try refine G_then ?_) | refine G_then ?_)
  try any_goals (refine H_seq ?_)
  try any_goals (have hE : Ext _ _ := Ext.refl w)
  try any_goals (refine H_open 0 rfl (fun q u0 hw hr0 => ?_); have hE := hE.trans hw)
  try any_goals (refine H_weakenC (C' := Sep q []) (fun w' h => sep_start h) ?_; have hC : UpC (Sep q []) := upC_sep)
  try any_goals (obtain ⟨us, hul, hus, hrow⟩ := isS_vals hr0)
  try any_goals (refine H_reg ?_)
  try any_goals (first | refine W_moveR (d := 6) (sq_stepper upC_sep) (U := uS e1 (pS e2 pI) T) (fun w' h => UR.lift (Sep.ext h) hr0) rfl rfl rfl ?_ | refine W_move (d := 6) (sq_stepper upC_sep) rfl rfl rfl ?_)
  try any_goals (first | refine W_len (d := 7) (sq_stepper upC_sep) (by kernel_rfl) rfl rfl rfl ?_ | refine W_lenStr (d := 7) (sq_stepper upC_sep) (by kernel_rfl) rfl rfl rfl ?_)
  try any_goals (refine Sq_makeS (d := 8) (e := 39) pV (.slice none 0 0) [.slice none 0 0] (by kernel_rfl) (by kernel_rfl) (by kernel_rfl) (fun _ => ⟨rfl, rfl⟩) rfl rfl rfl ⟨by omega, by omega⟩ (fun v8 => ?_))
  try any_goals (refine W_assign (d := 3) (sq_stepper upC_sep) rfl rfl rfl ?_)
  try any_goals (first | (refine Sq_nil ?_; try refine G_then ?_) | refine G_then ?_)
  try any_goals (refine H_seq ?_)
  try any_goals (first | (refine H_seq ?_; try refine H_reg ?_) | refine H_reg ?_)
  try any_goals (refine W_move (d := 9) (sq_stepper upC_sep) rfl rfl rfl ?_)
  try any_goals (refine W_lenR (d := 10) (sq_stepper upC_sep) (xs := T) (fun w' h => UR.lift (Sep.ext h) hr0) (by kernel_rfl) rfl rfl rfl ?_)
  try any_goals (refine W_move (d := 11) (sq_stepper upC_sep) rfl rfl rfl ?_)
  try any_goals (first | (refine Sq_nil ?_; try refine G_then ?_) | refine G_then ?_)
  try any_goals (refine H_block ?_)
  try any_goals ((refine H_loop (σ := Nat × List Value) (fun x => x.1 ≤ T.length ∧ x.2.length = x.1) (fun x => [(3, .inl v8), (9, .inl u0), (10, .inl (.int .i64 T.length)), (11, .inl (.int .i64 x.1))]) (fun x => Sep q (clC T x.2 v8 x.1)) (fun x => T.length - x.1) (0, []) ⟨Nat.zero_le _, rfl⟩ (fun a w' h => h.sub (by repeat (first | exact trivial | refine ⟨⟨_, rfl, fun _ _ _ h => h⟩, ?_⟩ | refine ⟨⟨_, rfl, fun v w _ h => (show v = _ from h).trans (congrArg (Value.int .i64) (by first | omega | (dsimp only; omega)))⟩, ?_⟩)) (fun w' h => by simpa [clC, rowsZ] using h)) (fun x hx => ?_); obtain ⟨i, vs⟩ := x; obtain ⟨hi, hvl⟩ := hx; simp only at hi hvl))
  try any_goals (first | (refine H_seq ?_; try refine H_reg ?_) | refine H_reg ?_)
  try any_goals (first | refine W_cmp (d := 12) (sq_stepper upC_sep) rfl rfl rfl rfl rfl ?_ | refine W_strcmp (d := 12) (sq_stepper upC_sep) rfl rfl rfl rfl rfl ?_)
  try any_goals (first | (refine Sq_nil ?_; try refine G_then ?_) | refine G_then ?_)
  try any_goals (refine H_seq ?_)
  try any_goals (first | refine H_condT rfl ?_ | refine H_condF rfl (Wt.un 0 ?_) | (refine H_cond _ rfl (fun hq => ?_) (fun hq => Wt.un 0 ?_) <;> (try simp only [hqs, reduceCtorEq] at hq)))
  try any_goals (refine H_skip ?_)
  try any_goals (refine G_hold 1 ?_)
  try any_goals (refine Wt.out 0 ?_)
  try any_goals (refine H_exit ?_)
  repeat (any_goals (first | refine G_exit_then ?_ | refine G_exit_here ?_ | refine G_exit_far rfl ?_))
  try any_goals (refine G_hold 2 ?_)
  try any_goals (refine Wt.out 1 ?_)
  try any_goals (refine G_then ?_)
  try any_goals (refine H_seq ?_)
  try any_goals (refine H_block ?_)
  try any_goals (first | (refine H_seq ?_; try refine H_reg ?_) | refine H_reg ?_)
  try any_goals (refine W_move (d := 13) (sq_stepper upC_sep) rfl rfl rfl ?_)
  try any_goals (refine W_indexR (d := 14) (sq_stepper upC_sep) (Φ := pV) (xs := us) (fun w' h => IsS.up (Sep.ext h) hus) (by kernel_rfl) rfl rfl rfl rfl ⟨by omega, by omega⟩ ?_)
  try any_goals (refine W_loadV (d := 15) (sq_stepper upC_sep) (by kernel_rfl) rfl rfl rfl ?_)
  try any_goals (refine W_assign (d := 4) (sq_stepper upC_sep) rfl rfl rfl ?_)
  try any_goals (refine W_assign (d := 5) (sq_stepper upC_sep) rfl rfl rfl ?_)
  try any_goals (first | (refine Sq_nil ?_; try refine G_then ?_) | refine G_then ?_)
  try any_goals (refine H_reg ?_)
  try any_goals (refine W_move (d := 16) (sq_stepper upC_sep) rfl rfl rfl ?_)
  try any_goals (refine W_move (d := 17) (sq_stepper upC_sep) rfl rfl rfl ?_)
  try any_goals (refine W_moveR (d := 18) (sq_stepper upC_sep) (U := uS e2 pI (ix T i)) (fun w' h => IsS.up (Sep.ext h) (hrow i (by omega))) rfl rfl rfl ?_)
  try any_goals ((refine Sq_callS (cg_cloneI _ (hr _ (mem_ix (by omega) (by omega)))) rfl rfl (by kernel_rfl) (fun v19 => ?_); refine Sq_slV 0 rfl (fun hv19 => ?_)))
  try any_goals (refine W_idxS1 (d := 20) 1 (sq_stepper upC_sep) rfl rfl (by kernel_rfl) rfl rfl rfl rfl ⟨by omega, by dsimp only; rw [List.length_append, List.length_replicate]; omega⟩ ?_)
  try any_goals ((refine Sq_storeSV 1 rfl ⟨trivial, trivial, avAll_rows⟩ ⟨by omega, by dsimp only; rw [List.length_append, List.length_replicate]; omega⟩ (by kernel_rfl) hv19 rfl rfl ?_))
  try any_goals (refine Sq_nil ?_)
  repeat (any_goals (first | refine G_exit_then ?_ | refine G_exit_here ?_ | refine G_exit_far rfl ?_ | refine G_normal_block ?_))
  try any_goals (refine G_then ?_)
  try any_goals (refine H_reg ?_)
  try any_goals (refine W_ar (d := 21) (sq_stepper upC_sep) rfl rfl rfl rfl rfl (by first | omega | (dsimp only; omega)) ?_)
  try any_goals (refine W_move (d := 11) (sq_stepper upC_sep) rfl rfl rfl ?_)
  try any_goals (refine Sq_nil ?_)
  try any_goals (refine G_again (i + 1, vs ++ [v19]) ⟨by simp only; omega, by simp only [List.length_append, List.length_cons, List.length_nil]; omega⟩ (by simp only; omega) (by repeat (first | exact trivial | refine ⟨⟨_, rfl, fun _ _ _ h => h⟩, ?_⟩ | refine ⟨⟨_, rfl, fun v w _ h => (show v = _ from h).trans (congrArg (Value.int .i64) (by first | omega | (dsimp only; omega)))⟩, ?_⟩)) (fun w' h => ?_))
  try any_goals (refine Wt.out 2 ?_)
  repeat (any_goals (first | refine G_exit_then ?_ | refine G_exit_here ?_ | refine G_exit_far rfl ?_ | refine G_normal_block ?_))
  try any_goals (refine G_then ?_)
  try any_goals (first | (refine H_seq ?_; try refine H_reg ?_) | refine H_reg ?_)
  try any_goals (refine W_move (d := 22) (sq_stepper upC_sep) rfl rfl rfl ?_)
  try any_goals (refine W_assign (d := 2) (sq_stepper upC_sep) rfl rfl rfl ?_)
  try any_goals (first | (refine Sq_nil ?_; try refine G_then ?_) | refine G_then ?_)
  try any_goals (refine H_ret ?_)
  repeat (any_goals (first | refine G_ret_then ?_ | refine G_ret_block ?_))
  all_goals (try dsimp only)
  all_goals first
    | (simp only [clC, List.set_cons_succ, List.set_cons_zero, Int.toNat_natCast] at h ⊢
       rw [set_fillK hvl (by omega)] at h
       have h2 := h.perm (L' := .sl Value _ pV ((vs ++ [v19]) ++ List.replicate (T.length - (i + 1)) (Value.slice none 0 0)) v8 :: (rowsZ (T.take i) vs ++ [.sl Int _ pI (ix T i) v19])) (by
         refine (List.Perm.swap _ _ _).trans (List.Perm.cons _ ?_)
         exact (List.perm_append_singleton _ _).symm)
       rw [← rowsZ_snoc (by rw [List.length_take]; omega), show T.take i ++ [ix T i] = T.take (i + 1) by rw [List.take_add_one, List.getElem?_eq_getElem (by omega), ix_elem (by omega)]; rfl] at h2
       exact h2)
    | (obtain rfl : i = T.length := (by omega)
       refine RX1 rfl rfl (fun v w' hc hv => ⟨(v8, vs), ⟨?_, hvl⟩, hv⟩)
       simp only [clC, Nat.sub_self, List.replicate_zero, List.append_nil] at hc
       rw [List.take_of_length_le (Nat.le_refl _)] at hc
       exact Sep.low hE hc)
    | trace_state
theorem dp_one {d : Dep} {w0 w : World} {vS vT : Value} {vs : List Value} {L0 : List Osl} (h : Sep w0 (dpL d vS vT vs ++ L0) w) : ∀ u ∈ [vS, vT], u.oneCell' = true := by
  intro u hu
  obtain ⟨A, c, cs, ⟨p, h1, _⟩, _⟩ := h.get (m := 0) (Ψ := pI) (xs := d.S) (v := vS) (e := 3) rfl
  obtain ⟨A2, c2, cs2, ⟨p2, h2, _⟩, _⟩ := h.get (m := 1) (Ψ := pV) (xs := vs) (v := vT) (e := 39) rfl
  simp only [List.mem_cons, List.not_mem_nil, or_false] at hu
  rcases hu with rfl | rfl
  · rw [h1]; rfl
  · rw [h2]; rfl
end Go.Proofs.Ytanlaggnhocjhaa

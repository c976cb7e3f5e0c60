/- Depots in memory of one's own: copied. -/
import Derived.Test.YtbipnenkgkebjaaBlo
import Derived.Test.YtbipnenkgkebjaaDpv
import Derived.Test.YtbipnenkgkebjaaDrs
import Derived.Test.YtbipnenkgkebjaaRes
namespace Go.Proofs.Ytbipnenkgkebjaa
set_option linter.unusedSimpArgs false
set_option linter.unusedVariables false
open Go.RowKit Go.ChangeShapes Go.WideShapes Go.ChangeAt Go.Deep
def dpL (d : Dep) (vS vT : Value) (vs : List Value) : List Osl := .sl Int 3 pI d.S vS :: .sl Value 22 pV vs vT :: rowsZ d.T vs
theorem dpL_row {d : Dep} {vS vT : Value} {vs : List Value} {L0 : List Osl} {i : Nat} (hl : vs.length = d.T.length) (hi : i < d.T.length) : (dpL d vS vT vs ++ L0)[i + 2]? = some (.sl Int 3 pI (ix d.T i) (ix vs i)) := by
  have h := rowsZ_get (ls := d.T) (vs := vs) (i := i) hl.symm hi
  have h2 : (dpL d vS vT vs)[i + 2]? = some (.sl Int 3 pI (ix d.T i) (ix vs i)) := h
  rw [List.getElem?_append_left (List.getElem?_eq_some_iff.1 h2).1]
  exact h2
theorem Sep.depT {w0 w : World} {d : Dep} {vS vT : Value} {vs : List Value} {L0 : List Osl} (h : Sep w0 (dpL d vS vT vs ++ L0) w) (hl : vs.length = d.T.length) : IsS (some 22) (pS (some 3) pI) d.T vT w :=
  isS_rows hl.symm (h.isS (m := 1) rfl) fun i hi => h.isS (dpL_row hl hi)
theorem Sep.dep {w0 w : World} {d : Dep} {vS vT : Value} {vs : List Value} {L0 : List Osl} (h : Sep w0 (dpL d vS vT vs ++ L0) w) (hl : vs.length = d.T.length) : (uA bDep d).R (.agg (([vS, vT] : List Value)).toArray) w :=
  ⟨[vS, vT], rfl, [vS], _, rfl, ⟨_, rfl, h.isS (m := 0) rfl⟩, [vT], _, rfl, ⟨_, rfl, h.depT hl⟩, rfl⟩
theorem avAll_dp {d : Dep} {vS vT : Value} {vs : List Value} {L0 : List Osl} {t : TypeId} (h : avAll L0 t) : avAll (dpL d vS vT vs ++ L0) t := avAll.app (L := dpL d vS vT vs) ⟨trivial, trivial, avAll_rows⟩ h
/-! Copies of lists. -/
theorem cx_cloneI {e : Option TypeId} (xs : List Int) (hb : xs.length ≤ 1048576) (w1 : World) : CTX Try.prog 57 (fun u => u = w1) [.inr (uS e pI xs)] (fun (y : Value) w' => Sep w1 [.sl Int 3 pI xs y] w' ∧ True) (fun y => .inl y) := ctg_ctx (cg_cloneI xs hb) w1
theorem cx_own {e : Option TypeId} (xs : List Int) (hb : xs.length ≤ 1048576) (w1 : World) : CTX Try.prog 73 (fun u => u = w1) [.inr (uS e pI xs)] (fun (y : Value) w' => Sep w1 [.sl Int 3 pI xs y] w' ∧ True) (fun y => .inl y) := by
  refine CTX_of Try.func73 rfl rfl rfl ?_
  refine H_weakenC (C' := Ext w1) (fun u hu => by subst hu; exact Ext.refl _) ?_
  have hC := upC_ext w1
  have hE := Ext.refl w1
  try any_goals (first | (refine H_seq ?_; try refine H_reg ?_) | refine H_reg ?_)
  try any_goals (refine W_assign (d := 2) (sq_stepper hC) rfl rfl rfl ?_)
  try any_goals (first | (refine Sq_nil ?_; try refine G_then ?_) | refine G_then ?_)
  try any_goals (refine H_seq ?_)
  try any_goals (have hE : Ext _ _ := Ext.refl w)
  try any_goals (refine H_open 0 rfl (fun q u0 hw hr0 => ?_); have hE := hE.trans hw)
  try any_goals (refine H_weakenC (C' := Sep q []) (fun w' h => sep_start h) ?_; have hC : UpC (Sep q []) := upC_sep)
  try any_goals (refine H_reg ?_)
  try any_goals ((refine Sq_buildS (d := 3) [] pI [] (e := 3) (by kernel_rfl) (by kernel_rfl) rfl rfl (by kernel_rfl) rfl rfl trivial rfl (fun v3 => ?_)))
  try any_goals (refine W_moveR (d := 4) (sq_stepper upC_sep) (U := uS e pI xs) (fun w' h => UR.lift (Sep.ext h) hr0) rfl rfl rfl ?_)
  try any_goals ((refine Sq_appSZ (d := 5) 0 (Ψ := pI) rfl ⟨trivial, trivial⟩ (by kernel_rfl) (by kernel_rfl) rfl rfl rfl (by simp only [List.length_nil]; omega) (fun va => ?_)))
  try any_goals (refine W_assign (d := 2) (sq_stepper upC_sep) rfl rfl rfl ?_)
  try any_goals (first | (refine Sq_nil ?_; try refine G_then ?_) | refine G_then ?_)
  try any_goals (refine H_ret ?_)
  repeat (any_goals (first | refine G_ret_then ?_ | refine G_ret_block ?_))
  all_goals exact RX1 rfl rfl (fun v w' hc hv => ⟨va, ⟨Sep.low hE hc, trivial⟩, hv⟩)
abbrev clC (T : List (List Int)) (vs : List Value) (v : Value) (i : Nat) : List Osl := .sl Value 22 pV (vs ++ List.replicate (T.length - i) (Value.slice none 0 0)) v :: rowsZ (T.take i) vs
theorem cx_copyL {e1 e2 : Option TypeId} (T : List (List Int)) (hl : T.length ≤ 1048576) (hr : ∀ z ∈ T, z.length ≤ 1048576) (w : World) : CTX Try.prog 72 (fun w1 => w1 = w) [.inr (uS e1 (pS e2 pI) T)]
    (fun (y : Value × List Value) w' => Sep w (.sl Value 22 pV y.2 y.1 :: rowsZ T y.2) w' ∧ y.2.length = T.length) (fun y => .inl y.1) := by
  refine CTX_of Try.func72 rfl rfl rfl ?_
  refine H_weakenC (C' := Ext w) (fun w1 h => by subst h; exact Ext.refl _) ?_
  have hC := upC_ext w
  try any_goals (first | (refine H_seq ?_; try refine H_reg ?_) | refine H_reg ?_)
  try any_goals (refine W_assign (d := 2) (sq_stepper hC) rfl rfl rfl ?_)
  try any_goals (first | (refine Sq_nil ?_; try refine G_then ?_) | refine G_then ?_)
  try any_goals (refine H_seq ?_)
  try any_goals (have hE : Ext _ _ := Ext.refl w)
  try any_goals (refine H_open 0 rfl (fun q u0 hw hr0 => ?_); have hE := hE.trans hw)
  try any_goals (refine H_weakenC (C' := Sep q []) (fun w' h => sep_start h) ?_; have hC : UpC (Sep q []) := upC_sep)
  try any_goals (obtain ⟨us, hul, hus, hrow⟩ := isS_vals hr0)
  try any_goals (refine H_reg ?_)
  try any_goals (first | refine W_moveR (d := 6) (sq_stepper upC_sep) (U := uS e1 (pS e2 pI) T) (fun w' h => UR.lift (Sep.ext h) hr0) rfl rfl rfl ?_ | refine W_move (d := 6) (sq_stepper upC_sep) rfl rfl rfl ?_)
  try any_goals (first | refine W_len (d := 7) (sq_stepper upC_sep) (by kernel_rfl) rfl rfl rfl ?_ | refine W_lenStr (d := 7) (sq_stepper upC_sep) (by kernel_rfl) rfl rfl rfl ?_)
  try any_goals (refine Sq_makeS (d := 8) (e := 22) pV (.slice none 0 0) [.slice none 0 0] (by kernel_rfl) (by kernel_rfl) (by kernel_rfl) (fun _ => ⟨rfl, rfl⟩) rfl rfl rfl ⟨by omega, by omega⟩ (fun v8 => ?_))
  try any_goals (refine W_assign (d := 3) (sq_stepper upC_sep) rfl rfl rfl ?_)
  try any_goals (first | (refine Sq_nil ?_; try refine G_then ?_) | refine G_then ?_)
  try any_goals (refine H_seq ?_)
  try any_goals (first | (refine H_seq ?_; try refine H_reg ?_) | refine H_reg ?_)
  try any_goals (refine W_move (d := 9) (sq_stepper upC_sep) rfl rfl rfl ?_)
  try any_goals (refine W_lenR (d := 10) (sq_stepper upC_sep) (xs := T) (fun w' h => UR.lift (Sep.ext h) hr0) (by kernel_rfl) rfl rfl rfl ?_)
  try any_goals (refine W_move (d := 11) (sq_stepper upC_sep) rfl rfl rfl ?_)
  try any_goals (first | (refine Sq_nil ?_; try refine G_then ?_) | refine G_then ?_)
  try any_goals (refine H_block ?_)
  try any_goals ((refine H_loop (σ := Nat × List Value) (fun x => x.1 ≤ T.length ∧ x.2.length = x.1) (fun x => [(3, .inl v8), (9, .inl u0), (10, .inl (.int .i64 T.length)), (11, .inl (.int .i64 x.1))]) (fun x => Sep q (clC T x.2 v8 x.1)) (fun x => T.length - x.1) (0, []) ⟨Nat.zero_le _, rfl⟩ (fun a w' h => h.sub (by repeat (first | exact trivial | refine ⟨⟨_, rfl, fun _ _ _ h => h⟩, ?_⟩ | refine ⟨⟨_, rfl, fun v w _ h => (show v = _ from h).trans (congrArg (Value.int .i64) (by first | omega | (dsimp only; omega)))⟩, ?_⟩)) (fun w' h => by simpa [clC, rowsZ] using h)) (fun x hx => ?_); obtain ⟨i, vs⟩ := x; obtain ⟨hi, hvl⟩ := hx; simp only at hi hvl))
  try any_goals (first | (refine H_seq ?_; try refine H_reg ?_) | refine H_reg ?_)
  try any_goals (first | refine W_cmp (d := 12) (sq_stepper upC_sep) rfl rfl rfl rfl rfl ?_ | refine W_strcmp (d := 12) (sq_stepper upC_sep) rfl rfl rfl rfl rfl ?_)
  try any_goals (first | (refine Sq_nil ?_; try refine G_then ?_) | refine G_then ?_)
  try any_goals (refine H_seq ?_)
  try any_goals (first | refine H_condT rfl ?_ | refine H_condF rfl (Wt.un 0 ?_) | (refine H_cond _ rfl (fun hq => ?_) (fun hq => Wt.un 0 ?_) <;> (try simp only [hqs, reduceCtorEq] at hq)))
  try any_goals (refine H_skip ?_)
  try any_goals (refine G_hold 1 ?_)
  try any_goals (refine Wt.out 0 ?_)
  try any_goals (refine H_exit ?_)
  repeat (any_goals (first | refine G_exit_then ?_ | refine G_exit_here ?_ | refine G_exit_far rfl ?_))
  try any_goals (refine G_hold 2 ?_)
  try any_goals (refine Wt.out 1 ?_)
  try any_goals (refine G_then ?_)
  try any_goals (refine H_seq ?_)
  try any_goals (refine H_block ?_)
  try any_goals (first | (refine H_seq ?_; try refine H_reg ?_) | refine H_reg ?_)
  try any_goals (refine W_move (d := 13) (sq_stepper upC_sep) rfl rfl rfl ?_)
  try any_goals (refine W_indexR (d := 14) (sq_stepper upC_sep) (Φ := pV) (xs := us) (fun w' h => IsS.up (Sep.ext h) hus) (by kernel_rfl) rfl rfl rfl rfl ⟨by omega, by omega⟩ ?_)
  try any_goals (refine W_loadV (d := 15) (sq_stepper upC_sep) (by kernel_rfl) rfl rfl rfl ?_)
  try any_goals (refine W_assign (d := 4) (sq_stepper upC_sep) rfl rfl rfl ?_)
  try any_goals (refine W_assign (d := 5) (sq_stepper upC_sep) rfl rfl rfl ?_)
  try any_goals (first | (refine Sq_nil ?_; try refine G_then ?_) | refine G_then ?_)
  try any_goals (refine H_reg ?_)
  try any_goals (refine W_move (d := 16) (sq_stepper upC_sep) rfl rfl rfl ?_)
  try any_goals (refine W_move (d := 17) (sq_stepper upC_sep) rfl rfl rfl ?_)
  try any_goals (refine W_moveR (d := 18) (sq_stepper upC_sep) (U := uS e2 pI (ix T i)) (fun w' h => IsS.up (Sep.ext h) (hrow i (by omega))) rfl rfl rfl ?_)
  try any_goals ((refine Sq_callS (cg_cloneI _ (hr _ (mem_ix (by omega) (by omega)))) rfl rfl (by kernel_rfl) (fun v19 => ?_); refine Sq_slV 0 rfl (fun hv19 => ?_)))
  try any_goals (refine W_idxS1 (d := 20) 1 (sq_stepper upC_sep) rfl rfl (by kernel_rfl) rfl rfl rfl rfl ⟨by omega, by dsimp only; rw [List.length_append, List.length_replicate]; omega⟩ ?_)
  try any_goals ((refine Sq_storeSV 1 rfl ⟨trivial, trivial, avAll_rows⟩ ⟨by omega, by dsimp only; rw [List.length_append, List.length_replicate]; omega⟩ (by kernel_rfl) hv19 rfl rfl ?_))
  try any_goals (refine Sq_nil ?_)
  repeat (any_goals (first | refine G_exit_then ?_ | refine G_exit_here ?_ | refine G_exit_far rfl ?_ | refine G_normal_block ?_))
  try any_goals (refine G_then ?_)
  try any_goals (refine H_reg ?_)
  try any_goals (refine W_ar (d := 21) (sq_stepper upC_sep) rfl rfl rfl rfl rfl (by first | omega | (dsimp only; omega)) ?_)
  try any_goals (refine W_move (d := 11) (sq_stepper upC_sep) rfl rfl rfl ?_)
  try any_goals (refine Sq_nil ?_)
  try any_goals (refine G_again (i + 1, vs ++ [v19]) ⟨by simp only; omega, by simp only [List.length_append, List.length_cons, List.length_nil]; omega⟩ (by simp only; omega) (by repeat (first | exact trivial | refine ⟨⟨_, rfl, fun _ _ _ h => h⟩, ?_⟩ | refine ⟨⟨_, rfl, fun v w _ h => (show v = _ from h).trans (congrArg (Value.int .i64) (by first | omega | (dsimp only; omega)))⟩, ?_⟩)) (fun w' h => ?_))
  try any_goals (refine Wt.out 2 ?_)
  repeat (any_goals (first | refine G_exit_then ?_ | refine G_exit_here ?_ | refine G_exit_far rfl ?_ | refine G_normal_block ?_))
  try any_goals (refine G_then ?_)
  try any_goals (first | (refine H_seq ?_; try refine H_reg ?_) | refine H_reg ?_)
  try any_goals (refine W_move (d := 22) (sq_stepper upC_sep) rfl rfl rfl ?_)
  try any_goals (refine W_assign (d := 2) (sq_stepper upC_sep) rfl rfl rfl ?_)
  try any_goals (first | (refine Sq_nil ?_; try refine G_then ?_) | refine G_then ?_)
  try any_goals (refine H_ret ?_)
  repeat (any_goals (first | refine G_ret_then ?_ | refine G_ret_block ?_))
  all_goals (try dsimp only)
  all_goals first
    | (simp only [clC, List.set_cons_succ, List.set_cons_zero, Int.toNat_natCast] at h ⊢
       rw [set_fillK hvl (by omega)] at h
       have h2 := h.perm (L' := .sl Value _ pV ((vs ++ [v19]) ++ List.replicate (T.length - (i + 1)) (Value.slice none 0 0)) v8 :: (rowsZ (T.take i) vs ++ [.sl Int _ pI (ix T i) v19])) (by
         refine (List.Perm.swap _ _ _).trans (List.Perm.cons _ ?_)
         exact (List.perm_append_singleton _ _).symm)
       rw [← rowsZ_snoc (by rw [List.length_take]; omega), show T.take i ++ [ix T i] = T.take (i + 1) by rw [List.take_add_one, List.getElem?_eq_getElem (by omega), ix_elem (by omega)]; rfl] at h2
       exact h2)
    | (obtain rfl : i = T.length := (by omega)
       refine RX1 rfl rfl (fun v w' hc hv => ⟨(v8, vs), ⟨?_, hvl⟩, hv⟩)
       simp only [clC, Nat.sub_self, List.replicate_zero, List.append_nil] at hc
       rw [List.take_of_length_le (Nat.le_refl _)] at hc
       exact Sep.low hE hc)
    | trace_state
theorem dp_one {d : Dep} {w0 w : World} {vS vT : Value} {vs : List Value} {L0 : List Osl} (h : Sep w0 (dpL d vS vT vs ++ L0) w) : ∀ u ∈ [vS, vT], u.oneCell' = true := by
  intro u hu
  obtain ⟨A, c, cs, ⟨p, h1, _⟩, _⟩ := h.get (m := 0) (Ψ := pI) (xs := d.S) (v := vS) (e := 3) rfl
  obtain ⟨A2, c2, cs2, ⟨p2, h2, _⟩, _⟩ := h.get (m := 1) (Ψ := pV) (xs := vs) (v := vT) (e := 22) rfl
  simp only [List.mem_cons, List.not_mem_nil, or_false] at hu
  rcases hu with rfl | rfl
  · rw [h1]; rfl
  · rw [h2]; rfl
theorem cx_copyDep (d : Dep) (hf : DepF d) (w : World) : CTX Try.prog 49 (fun u => u = w) [.inr (uA bDep d)]
    (fun (y : Value × Value × List Value) w' => Sep w (dpL d y.1 y.2.1 y.2.2) w' ∧ y.2.2.length = d.T.length) (fun y => .inl (.agg (([y.1, y.2.1] : List Value)).toArray)) := by
  have hs := hf.s
  have ht := hf.t
  have ha := hf.a
  refine CTX_of Try.func49 rfl rfl rfl ?_
  refine H_weakenC (C' := Sep w []) (fun w1 h => by subst h; exact sep_start (Ext.refl _)) ?_
  have hC : UpC (Sep w []) := upC_sep
  try any_goals (first | (refine H_seq ?_; try refine H_reg ?_) | refine H_reg ?_)
  try any_goals (refine W_boxA (d := 1) (sq_stepper upC_sep) rfl rfl rfl ?_)
  try any_goals (refine Sq_allocS (d := 2) (n := 2) (by kernel_rfl) rfl (fun g2 cs2 hcs2 => ?_))
  try any_goals (first | (refine Sq_nil ?_; try refine G_then ?_) | refine G_then ?_)
  try any_goals (refine H_seq ?_)
  try any_goals (refine H_pinR 1 (fun wr hS => ?_))
  try any_goals (refine H_drawR [0, 1, 2, 3, 4, 5] [6, 7] (by kernel_rfl) (by kernel_rfl) (upC_ext _) ?_)
  try any_goals (first | refine W_fieldG (d := 3) (wkR_stepper (upC_ext _)) (Proj.head _ _ _) (by kernel_rfl) rfl rfl rfl ?_ | refine W_fieldC (d := 3) (wkR_stepper (upC_ext _)) (off := 0) (by kernel_rfl) rfl rfl rfl ?_)
  try any_goals (refine W_loadS (d := 4) (wkR_stepper (upC_ext _)) (by kernel_rfl) rfl rfl rfl ?_)
  try any_goals (refine WR_ctx0 (cx_cloneI d.S hs) rfl rfl (by kernel_rfl) ?_)
  try any_goals (first | refine W_fieldG (d := 6) (wkR_stepper (upC_ext _)) (Proj.tail _ _ (Proj.head _ _ _)) (by kernel_rfl) rfl rfl rfl ?_ | refine W_fieldC (d := 6) (wkR_stepper (upC_ext _)) (off := 1) (by kernel_rfl) rfl rfl rfl ?_)
  try any_goals (refine W_loadS (d := 7) (wkR_stepper (upC_ext _)) (by kernel_rfl) rfl rfl rfl ?_)
  try any_goals (refine WR_ctxJ 5 (List.Mem.head _) (by kernel_rfl) (by kernel_rfl) (cx_copyL d.T ht ha) rfl rfl (by kernel_rfl) ?_)
  try any_goals (refine WR_nil ?_)
  try any_goals (refine SqR_open 8 hS (List.Mem.head _) (fun y hy => ?_); obtain ⟨⟨v8, vs⟩, v5⟩ := y; have hvl : vs.length = d.T.length := hy.1; refine Sq_weaken (C' := Sep w (dpL d v5 v8 vs ++ [.raw 29 g2 cs2])) (fun w' h => h.perm (by simp only [dpL, List.append_assoc, List.cons_append, List.nil_append, List.map_cons, List.map_nil]; exact (List.perm_middle (l₁ := .sl Value _ pV vs v8 :: rowsZ d.T vs)))) ?_)
  try any_goals (refine Sq_slE 0 (v := v5) rfl (fun p5 c5 hv5 => ?_); refine Sq_slE 1 (v := v8) rfl (fun p8 c8 hv8 => ?_); subst hv5 hv8; refine W_build2V (d := 9) (sq_stepper upC_sep) [.slice p5 d.S.length c5, .slice p8 vs.length c8] rfl rfl (by kernel_rfl) rfl rfl ?_)
  try any_goals (refine Sq_cls (fun wq hq => ?_); refine Sq_storeRaw (dpL d (.slice p5 d.S.length c5) (.slice p8 vs.length c8) vs).length (e := 29) (b := g2) (k := 2) (vs := [.slice p5 d.S.length c5, .slice p8 vs.length c8]) (cs := cs2) (by simp) (avAll_dp ⟨trivial, trivial⟩) (by kernel_rfl) rfl rfl rfl (raw_ag (dp_one hq)) (by rw [hcs2]; exact Nat.le_refl _) ?_)
  try any_goals (first | (refine Sq_nil ?_; try refine G_then ?_) | refine G_then ?_)
  try any_goals (refine H_ret ?_)
  repeat (any_goals (first | refine G_ret_then ?_ | refine G_ret_block ?_))
  all_goals (rw [set_last rfl, putL_all (by rw [hcs2]; rfl)])
  all_goals first
    | exact RcellX (dpL d (.slice p5 d.S.length c5) (.slice p8 vs.length c8) vs).length (b := g2) (cs := [.slice p5 d.S.length c5, .slice p8 vs.length c8]) (k := 2) rfl (by kernel_rfl) rfl get_last rfl (fun w' hc => ⟨(_, _, vs), ⟨hc.appL, hvl⟩, rfl⟩)
    | trace_state
end Go.Proofs.Ytbipnenkgkebjaa

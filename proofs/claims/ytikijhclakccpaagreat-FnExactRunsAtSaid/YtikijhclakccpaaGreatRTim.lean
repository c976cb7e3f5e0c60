/- The times of a run, both ways. -/
import Derived.Test.YtikijhclakccpaaGreatInner
import Derived.Test.YtikijhclakccpaaGreatStop
import Derived.Test.YtikijhclakccpaaGreatSub
namespace Go.Proofs.YtikijhclakccpaaGreat
set_option linter.unusedSimpArgs false
set_option linter.unusedVariables false
open Go.RowKit Go.ChangeShapes Go.WideShapes Go.ChangeAt Go.Deep
def rtF (t : Tab) (x : Rn) (id : Int) (j : Nat) : Int := timF t (ix t.T (fndT t id)) (x.F.toNat + j) + x.H
def rtN (x : Rn) : Nat := (x.O - x.F + 1).toNat
def rtX (t : Tab) (x : Rn) (id : Int) : List Int := lstI (rtF t x id) (rtN x)
def rtOk (t : Tab) (xs : List Rn) (id : Int) : Bool := rnsB t xs && decide (0 ≤ fndR xs id)
theorem rtOk_y {t : Tab} {xs : List Rn} {id : Int} (h : rnsB t xs = true) (h1 : 0 ≤ fndR xs id) : rtOk t xs id = true := by
  rw [rtOk, h, decide_eq_true h1]; rfl
theorem rtOk_n {t : Tab} {xs : List Rn} {id : Int} (h : rnsB t xs = false ∨ fndR xs id < 0) : rtOk t xs id = false := by
  rw [rtOk]
  rcases h with h | h
  · rw [h]; rfl
  · rw [decide_eq_false (by omega), Bool.and_false]
def rtR (t : Tab) (xs : List Rn) (id : Int) : List Int := if rtOk t xs id then rtX t (ix xs (fndR xs id)) id else []
/-- The planned times of the places of a run. -/
def rtY (t : Tab) (x : Rn) : List Int := ((timT t (ix t.T (fndT t x.T))).drop x.F.toNat).take (x.O + 1 - x.F).toNat
theorem rtY_get {t : Tab} {x : Rn} (hF : 0 ≤ x.F) (hFO : x.F < x.O) (hO : x.O < stN t x.T) {j : Nat} (hj : j < rtN x) : (rtY t x)[j]? = some (timF t (ix t.T (fndT t x.T)) (x.F.toNat + j)) := by
  have hst : ((ix t.N.L (ix t.T (fndT t x.T)).L).S.length : Int) = stN t x.T := rfl
  unfold rtN at hj
  rw [rtY, List.getElem?_take, if_pos (by omega), List.getElem?_drop, timT, lstI, List.getElem?_map, List.getElem?_range (by omega)]
  rfl
theorem rtY_len {t : Tab} {x : Rn} (hF : 0 ≤ x.F) (hFO : x.F < x.O) (hO : x.O < stN t x.T) : (rtY t x).length = rtN x := by
  have hst : ((ix t.N.L (ix t.T (fndT t x.T)).L).S.length : Int) = stN t x.T := rfl
  rw [rtY, List.length_take, List.length_drop, timT, lstI_length, rtN]
  omega
theorem cg_runTimes (t : Tab) (x : Rn) (hv : tabB t = true) (hf : 0 ≤ fndT t x.T) (hF : 0 ≤ x.F) (hFO : x.F < x.O) (hO : x.O < stN t x.T) (hH : 0 ≤ x.H ∧ x.H ≤ 60) : CTG Tryz.prog 29 [.inr (uA bTab t), .inr (uA pRn x)] (fun s => .inr (uO s oSub (rtX t x x.T))) := by
  refine CTG_of Tryz.func29 rfl rfl rfl (fun w s hs => ?_)
  have hC := upC_ext w
  have hft := fndT_bd (t := t) (id := x.T)
  have hat := tabB_at hv hf hft.2
  have hz := tabB_lin hv hf hft.2
  have hz1 := hz.s
  have hz2 := hz.r
  have hst : ((ix t.N.L (ix t.T (fndT t x.T)).L).S.length : Int) = stN t x.T := rfl
  have hst2 : ((trLin t (fndT t x.T)).S.length : Int) = stN t x.T := rfl
  have hyl := rtY_len (t := t) hF hFO hO
  have hN : ((rtN x : Nat) : Int) = x.O - x.F + 1 := by unfold rtN; omega
  have hyb : ∀ j : Nat, j < rtN x → 0 ≤ timF t (ix t.T (fndT t x.T)) (x.F.toNat + j) ∧ timF t (ix t.T (fndT t x.T)) (x.F.toNat + j) ≤ 2200 := fun j hj => timF_bd hz hat.2.2.1 (by show _ ≤ ((trLin t (fndT t x.T)).R.length : Int); omega)
  try any_goals (first | (refine H_seq ?_; try refine H_reg ?_) | refine H_reg ?_)
  try any_goals (refine W_boxA (d := 2) (sq_stepper hC) rfl rfl rfl ?_)
  try any_goals (refine W_boxA (d := 3) (sq_stepper hC) rfl rfl rfl ?_)
  try any_goals (refine W_assign (d := 4) (sq_stepper hC) rfl rfl rfl ?_)
  try any_goals (first | (refine Sq_nil ?_; try refine G_then ?_) | refine G_then ?_)
  try any_goals (refine H_seq ?_)
  try any_goals (have hE : Ext _ _ := Ext.refl w)
  try any_goals (refine H_open 2 rfl (fun q u2 hw hr2 => ?_); have hE := hE.trans hw)
  try any_goals (refine H_open 3 rfl (fun q u3 hw hr3 => ?_); have hE := hE.trans hw; have hr2 := UR.lift hw hr2)
  try any_goals (refine H_weakenC (C' := Sep q []) (fun w' h => sep_start h) ?_; have hC : UpC (Sep q []) := upC_sep)
  try any_goals (refine H_draw' (by kernel_rfl) upC_sep ?_)
  try any_goals (first | refine W_loadUP (d := 7) wk_stepper (fun w' h => UR.lift (Sep.ext h) hr2) (by kernel_rfl) rfl rfl rfl ?_ | refine W_loadUP (d := 7) wk_stepper (fun w' h => UR.lift (Sep.ext h) hr3) (by kernel_rfl) rfl rfl rfl ?_ | refine W_loadA (d := 7) wk_stepper (by kernel_rfl) rfl rfl rfl ?_ | refine W_loadRaw (d := 7) 0 wk_stepper (t := 3) (v := .int .i64 (timF t (ix t.T (fndT t x.T)) (x.F.toNat + i))) rfl (by kernel_rfl) rfl rfl rfl (by rw [show o + ((i : Nat) : Int).toNat * 1 = o + i by omega]; exact hld) ?_)
  try any_goals (first | refine W_loadUP (d := 8) wk_stepper (fun w' h => UR.lift (Sep.ext h) hr2) (by kernel_rfl) rfl rfl rfl ?_ | refine W_loadUP (d := 8) wk_stepper (fun w' h => UR.lift (Sep.ext h) hr3) (by kernel_rfl) rfl rfl rfl ?_ | refine W_loadA (d := 8) wk_stepper (by kernel_rfl) rfl rfl rfl ?_ | refine W_loadRaw (d := 8) 0 wk_stepper (t := 3) (v := .int .i64 (timF t (ix t.T (fndT t x.T)) (x.F.toNat + i))) rfl (by kernel_rfl) rfl rfl rfl (by rw [show o + ((i : Nat) : Int).toNat * 1 = o + i by omega]; exact hld) ?_)
  try any_goals (first | refine W_fieldG (d := 9) wk_stepper (Proj.head _ _ _) (by kernel_rfl) rfl rfl rfl ?_ | refine W_fieldUP (d := 9) wk_stepper (fun w' h => UR.lift (Sep.ext h) hr2) (Proj.head _ _ _) (by kernel_rfl) rfl rfl rfl ?_ | refine W_fieldUP (d := 9) wk_stepper (fun w' h => UR.lift (Sep.ext h) hr3) (Proj.head _ _ _) (by kernel_rfl) rfl rfl rfl ?_ | refine W_fieldC (d := 9) wk_stepper (off := 0) (by kernel_rfl) rfl rfl rfl ?_)
  try any_goals (first | refine W_loadI (d := 10) wk_stepper (by kernel_rfl) rfl rfl rfl ?_ | refine W_loadRaw (d := 10) 0 wk_stepper (t := 3) (v := .int .i64 (timF t (ix t.T (fndT t x.T)) (x.F.toNat + i))) rfl (by kernel_rfl) rfl rfl rfl (by rw [show o + ((i : Nat) : Int).toNat * 1 = o + i by omega]; exact hld) ?_)
  try any_goals (first | refine W_ct (d := 11) wk_stepper (ct_tripWith _ _ hf) rfl rfl rfl (by kernel_rfl) ?_ | refine W_lenO (d := 11) wk_stepper (by kernel_rfl) rfl rfl rfl ?_)
  try any_goals (first | (refine W_ctG (d := 12) wk_stepper (s := q.heap.size) (cg_stopTimes t (ix t.T (fndT t x.T)) ⟨by omega, by omega⟩ hz hat.2.2.1) (fun w' h => (Sep.ext h).size) rfl rfl rfl (by kernel_rfl) ?_) | refine W_lenO (d := 12) wk_stepper (by kernel_rfl) rfl rfl rfl ?_)
  try any_goals (first | refine W_fieldG (d := 13) wk_stepper (Proj.tail _ _ (Proj.head _ _ _)) (by kernel_rfl) rfl rfl rfl ?_ | refine W_fieldUP (d := 13) wk_stepper (fun w' h => UR.lift (Sep.ext h) hr2) (Proj.tail _ _ (Proj.head _ _ _)) (by kernel_rfl) rfl rfl rfl ?_ | refine W_fieldUP (d := 13) wk_stepper (fun w' h => UR.lift (Sep.ext h) hr3) (Proj.tail _ _ (Proj.head _ _ _)) (by kernel_rfl) rfl rfl rfl ?_ | refine W_fieldC (d := 13) wk_stepper (off := 1) (by kernel_rfl) rfl rfl rfl ?_)
  try any_goals (first | refine W_loadI (d := 14) wk_stepper (by kernel_rfl) rfl rfl rfl ?_ | refine W_loadRaw (d := 14) 0 wk_stepper (t := 3) (v := .int .i64 (timF t (ix t.T (fndT t x.T)) (x.F.toNat + i))) rfl (by kernel_rfl) rfl rfl rfl (by rw [show o + ((i : Nat) : Int).toNat * 1 = o + i by omega]; exact hld) ?_)
  try any_goals (first | refine W_fieldG (d := 15) wk_stepper (Proj.tail _ _ (Proj.tail _ _ (Proj.head _ _ _))) (by kernel_rfl) rfl rfl rfl ?_ | refine W_fieldUP (d := 15) wk_stepper (fun w' h => UR.lift (Sep.ext h) hr2) (Proj.tail _ _ (Proj.tail _ _ (Proj.head _ _ _))) (by kernel_rfl) rfl rfl rfl ?_ | refine W_fieldUP (d := 15) wk_stepper (fun w' h => UR.lift (Sep.ext h) hr3) (Proj.tail _ _ (Proj.tail _ _ (Proj.head _ _ _))) (by kernel_rfl) rfl rfl rfl ?_ | refine W_fieldC (d := 15) wk_stepper (off := 2) (by kernel_rfl) rfl rfl rfl ?_)
  try any_goals (first | refine W_loadI (d := 16) wk_stepper (by kernel_rfl) rfl rfl rfl ?_ | refine W_loadRaw (d := 16) 0 wk_stepper (t := 3) (v := .int .i64 (timF t (ix t.T (fndT t x.T)) (x.F.toNat + i))) rfl (by kernel_rfl) rfl rfl rfl (by rw [show o + ((i : Nat) : Int).toNat * 1 = o + i by omega]; exact hld) ?_)
  try any_goals (refine W_ar (d := 17) wk_stepper rfl rfl rfl rfl rfl (by first | omega | (dsimp only; omega)) ?_)
  try any_goals (first | refine W_sliceSub (d := 18) wk_stepper (by kernel_rfl) (by rw [Tryz.underlying64]; simp) rfl rfl rfl rfl rfl ⟨hF, by omega, by rw [timT, lstI_length]; omega⟩ ?_ | refine W_slice (d := 18) wk_stepper (by kernel_rfl) rfl rfl rfl rfl rfl (by first | omega | (dsimp only; omega)) ?_)
  try any_goals (refine Wk_assign (by kernel_rfl) (by kernel_rfl) ?_)
  try any_goals (refine W_assign (d := 5) (sq_stepper upC_sep) rfl rfl rfl ?_)
  try any_goals (first | (refine Sq_nil ?_; try refine G_then ?_) | refine G_then ?_)
  try any_goals (refine H_seq ?_)
  try any_goals (refine H_seq ?_)
  try any_goals (refine H_openSub (ys := rtY t x) 5 rfl (by omega) (fun w' h => Sep.ext h) (fun g o n cs hg0 hn1 hn2 hn3 hcs => ?_))
  try any_goals (refine H_reg ?_)
  try any_goals (refine W_move (d := 19) (sq_stepper upC_sep) rfl rfl rfl ?_)
  try any_goals (first | refine W_len (d := 20) (sq_stepper upC_sep) (by kernel_rfl) rfl rfl rfl ?_ | refine W_lenStr (d := 20) (sq_stepper upC_sep) (by kernel_rfl) rfl rfl rfl ?_ | refine W_lenO (d := 20) (sq_stepper upC_sep) (by kernel_rfl) rfl rfl rfl ?_)
  try any_goals (refine W_move (d := 21) (sq_stepper upC_sep) rfl rfl rfl ?_)
  try any_goals (first | (refine Sq_nil ?_; try refine G_then ?_) | refine G_then ?_)
  try any_goals (refine H_block ?_)
  try any_goals ((refine H_loop (σ := Nat × List Value) (fun y => y.1 ≤ rtN x ∧ y.2.length = cs.length ∧ ∀ (j : Nat) z, (rtY t x)[j]? = some z → y.2[o + j]? = some (.int .i64 (z + if j < y.1 then x.H else 0))) (fun y => [(3, .inl u3), (5, .inl (.slice (some ⟨g, o, none⟩) (rtY t x).length n)), (20, .inl (.int .i64 (rtY t x).length)), (21, .inl (.int .i64 y.1))]) (fun y => Sep q [.raw 3 g y.2]) (fun y => rtN x - y.1) (0, cs) ⟨Nat.zero_le _, rfl, fun j z hj => by simpa using hcs j z hj⟩ (fun a w' h => h.sub (by repeat (first | exact trivial | refine ⟨⟨_, rfl, fun _ _ _ h => h⟩, ?_⟩ | refine ⟨⟨_, rfl, fun v w _ h => (show v = _ from h).trans (congrArg (Value.int .i64) (by first | omega | (dsimp only; omega)))⟩, ?_⟩)) (fun w' h => h)) (fun y hy => ?_); obtain ⟨i, ci⟩ := y; obtain ⟨hi, hcl, hcell⟩ := hy; simp only at hi hcl hcell))
  try any_goals (first | (refine H_seq ?_; try refine H_reg ?_) | refine H_reg ?_)
  try any_goals (first | refine W_cmp (d := 22) (sq_stepper upC_sep) rfl rfl rfl rfl rfl ?_ | refine W_strcmp (d := 22) (sq_stepper upC_sep) rfl rfl rfl rfl rfl ?_)
  try any_goals (first | (refine Sq_nil ?_; try refine G_then ?_) | refine G_then ?_)
  try any_goals (refine H_seq ?_)
  try any_goals (first | refine H_condT rfl ?_ | refine H_condF rfl ?_ | (refine H_cond _ rfl (fun hq => ?_) (fun hq => ?_) <;> (try simp only [hqs, reduceCtorEq] at hq)))
  try any_goals (first | ((have hi' : i < rtN x := (by omega); have hyi := rtY_get (t := t) hF hFO hO hi'; have hld := hcell i _ hyi; rw [if_neg (Nat.lt_irrefl _), Int.add_zero] at hld; have hb := hyb i hi')) | skip)
  try any_goals (refine H_skip ?_)
  try any_goals (refine H_exit ?_)
  repeat (any_goals (first | refine G_exit_then ?_ | refine G_exit_here ?_ | refine G_exit_far rfl ?_))
  try any_goals (refine G_then ?_)
  try any_goals (refine H_seq ?_)
  try any_goals (refine H_block ?_)
  try any_goals (first | (refine H_seq ?_; try refine H_reg ?_) | refine H_reg ?_)
  try any_goals (refine W_move (d := 23) (sq_stepper upC_sep) rfl rfl rfl ?_)
  try any_goals (refine W_assign (d := 6) (sq_stepper upC_sep) rfl rfl rfl ?_)
  try any_goals (first | (refine Sq_nil ?_; try refine G_then ?_) | refine G_then ?_)
  try any_goals (refine H_draw' (by kernel_rfl) upC_sep ?_)
  try any_goals (refine W_move (d := 24) wk_stepper rfl rfl rfl ?_)
  try any_goals (refine W_move (d := 25) wk_stepper rfl rfl rfl ?_)
  try any_goals (first | refine W_index (d := 26) wk_stepper (by kernel_rfl) rfl rfl rfl rfl (by first | omega | (dsimp only; omega)) ?_ | refine W_indexV (d := 26) wk_stepper (s := 1) (by kernel_rfl) rfl rfl rfl rfl (by omega) ?_)
  try any_goals (first | refine W_loadI (d := 27) wk_stepper (by kernel_rfl) rfl rfl rfl ?_ | refine W_loadRaw (d := 27) 0 wk_stepper (t := 3) (v := .int .i64 (timF t (ix t.T (fndT t x.T)) (x.F.toNat + i))) rfl (by kernel_rfl) rfl rfl rfl (by rw [show o + ((i : Nat) : Int).toNat * 1 = o + i by omega]; exact hld) ?_)
  try any_goals (first | refine W_fieldG (d := 28) wk_stepper (Proj.tail _ _ (Proj.tail _ _ (Proj.tail _ _ (Proj.head _ _ _)))) (by kernel_rfl) rfl rfl rfl ?_ | refine W_fieldUP (d := 28) wk_stepper (fun w' h => UR.lift (Sep.ext h) hr2) (Proj.tail _ _ (Proj.tail _ _ (Proj.tail _ _ (Proj.head _ _ _)))) (by kernel_rfl) rfl rfl rfl ?_ | refine W_fieldUP (d := 28) wk_stepper (fun w' h => UR.lift (Sep.ext h) hr3) (Proj.tail _ _ (Proj.tail _ _ (Proj.tail _ _ (Proj.head _ _ _)))) (by kernel_rfl) rfl rfl rfl ?_ | refine W_fieldC (d := 28) wk_stepper (off := 3) (by kernel_rfl) rfl rfl rfl ?_)
  try any_goals (first | refine W_loadI (d := 29) wk_stepper (by kernel_rfl) rfl rfl rfl ?_ | refine W_loadRaw (d := 29) 0 wk_stepper (t := 3) (v := .int .i64 (timF t (ix t.T (fndT t x.T)) (x.F.toNat + i))) rfl (by kernel_rfl) rfl rfl rfl (by rw [show o + ((i : Nat) : Int).toNat * 1 = o + i by omega]; exact hld) ?_)
  try any_goals (refine W_ar (d := 30) wk_stepper rfl rfl rfl rfl rfl (by first | omega | (dsimp only; omega)) ?_)
  try any_goals (first | refine W_index (d := 31) wk_stepper (by kernel_rfl) rfl rfl rfl rfl (by first | omega | (dsimp only; omega)) ?_ | refine W_indexV (d := 31) wk_stepper (s := 1) (by kernel_rfl) rfl rfl rfl rfl (by omega) ?_)
  try any_goals (refine Wk_none (by kernel_rfl) (by kernel_rfl) ?_)
  try any_goals ((refine Sq_storeRaw 0 (k := 1) (vs := [.int .i64 (timF t (ix t.T (fndT t x.T)) (x.F.toNat + i) + x.H)]) rfl ⟨trivial, trivial⟩ (by kernel_rfl) rfl rfl rfl (fun v w h => raw_v rfl v w h) (by show o + ((i : Nat) : Int).toNat * 1 + 1 ≤ ci.length; omega) ?_))
  try any_goals (refine Sq_nil ?_)
  repeat (any_goals (first | refine G_exit_then ?_ | refine G_exit_here ?_ | refine G_exit_far rfl ?_ | refine G_normal_block ?_))
  try any_goals (refine G_then ?_)
  try any_goals (refine H_reg ?_)
  try any_goals (refine W_ar (d := 32) (sq_stepper upC_sep) rfl rfl rfl rfl rfl (by first | omega | (dsimp only; omega)) ?_)
  try any_goals (refine W_move (d := 21) (sq_stepper upC_sep) rfl rfl rfl ?_)
  try any_goals (refine Sq_nil ?_)
  try any_goals (refine G_again (i + 1, putL ci (o + ((i : Nat) : Int).toNat * 1) [.int .i64 (timF t (ix t.T (fndT t x.T)) (x.F.toNat + i) + x.H)]) ⟨by simp only; omega, by rw [putL_length (by simp; omega)]; exact hcl, fun j z hj => ?_⟩ (by simp only; omega) (by repeat (first | exact trivial | refine ⟨⟨_, rfl, fun _ _ _ h => h⟩, ?_⟩ | refine ⟨⟨_, rfl, fun v w _ h => (show v = _ from h).trans (congrArg (Value.int .i64) (by first | omega | (dsimp only; omega)))⟩, ?_⟩)) (fun w' h => h))
  repeat (any_goals (first | refine G_exit_then ?_ | refine G_exit_here ?_ | refine G_exit_far rfl ?_ | refine G_normal_block ?_))
  try any_goals (refine G_then ?_)
  try any_goals (first | (refine H_seq ?_; try refine H_reg ?_) | refine H_reg ?_)
  try any_goals (refine W_move (d := 33) (sq_stepper upC_sep) rfl rfl rfl ?_)
  try any_goals (refine W_assign (d := 4) (sq_stepper upC_sep) rfl rfl rfl ?_)
  try any_goals (first | (refine Sq_nil ?_; try refine G_then ?_) | refine G_then ?_)
  try any_goals (refine H_ret ?_)
  repeat (any_goals (first | refine G_ret_then ?_ | refine G_ret_block ?_))
  all_goals (try dsimp only)
  all_goals first
    | (have hjl : j < rtN x := by have := (List.getElem?_eq_some_iff.1 hj).1; omega
       have hjz := rtY_get (t := t) hF hFO hO hjl
       rw [hj] at hjz
       injection hjz with hjz
       by_cases e : j = i
       · subst e
         rw [if_pos (Nat.lt_succ_self _), hjz, show o + ((j : Nat) : Int).toNat * 1 = o + j + 0 by omega, show o + j = o + j + 0 by omega]
         exact putL_in (by simp; omega) rfl
       · rw [putL_out (by simp; omega) (by simp; omega), hcell j z hj]
         by_cases h2 : j < i
         · rw [if_pos h2, if_pos (by omega)]
         · rw [if_neg h2, if_neg (by omega)])
    | (have e : i = rtN x := by omega
       have hlen : (rtX t x x.T).length = (rtY t x).length := by rw [rtX, lstI_length, hyl]
       refine R1 rfl (fun _ h => hE.trans h.ext) rfl (fun v w' hc hv => ?_)
       rw [show v = _ from hv, ← hlen]
       refine raw_oSub hc (Nat.le_trans hs hE.size) hg0 (by omega) hn2 (by omega) (fun j z hj => ?_)
       have hjl : j < rtN x := by have := (List.getElem?_eq_some_iff.1 hj).1; omega
       have hjz := rtY_get (t := t) hF hFO hO hjl
       have h3 := hcell j _ hjz
       rw [if_pos (by omega)] at h3
       have h4 : z = rtF t x x.T j := by
         rw [rtX, lstI, List.getElem?_map, List.getElem?_range hjl] at hj
         simpa using hj.symm
       rw [h3, h4]
       rfl)
    | trace_state
end Go.Proofs.YtikijhclakccpaaGreat

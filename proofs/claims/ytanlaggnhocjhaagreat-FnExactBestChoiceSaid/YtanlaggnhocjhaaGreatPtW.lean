/- A number put into a list that ascends: the reference's function. -/
import Derived.Test.YtanlaggnhocjhaaGreatSort
import Derived.Test.YtanlaggnhocjhaaGreatIns
import Derived.Test.YtanlaggnhocjhaaGreatOwnG
namespace Go.Proofs.YtanlaggnhocjhaaGreat
set_option linter.unusedSimpArgs false
set_option linter.unusedVariables false
open Go.RowKit
/-- How many from the front are less. -/
def lsN : List Int → Int → Nat
  | [], _ => 0
  | y :: ys, x => if y < x then lsN ys x + 1 else 0
def putI (xs : List Int) (x : Int) : List Int := if lsN xs x < xs.length ∧ ix xs (lsN xs x) = x then xs else insAt xs (lsN xs x) x
theorem lsN_eq {x : Int} : ∀ {xs : List Int} {i : Nat}, i ≤ xs.length → (∀ j : Nat, j < i → ix xs j < x) → (i = xs.length ∨ ¬ ix xs i < x) → lsN xs x = i
  | [], i, h, _, _ => by
    have h : i ≤ 0 := h
    show 0 = i
    omega
  | y :: ys, 0, _, _, h => by
    unfold lsN
    rcases h with h | h
    · simp at h
    · rw [if_neg (by exact h)]
  | y :: ys, i + 1, h, hl, hr => by
    unfold lsN
    rw [if_pos (by exact hl 0 (by omega))]
    have e : ∀ j : Nat, ix (y :: ys) ((j + 1 : Nat) : Int) = ix ys (j : Int) := fun j => rfl
    rw [lsN_eq (xs := ys) (i := i) (by simpa using h) (fun j hj => by rw [← e]; exact hl (j + 1) (by omega)) (by
      rw [← e]
      rcases hr with hr | hr
      · exact .inl (by simpa using hr)
      · exact .inr hr)]
theorem insAt_cons {y x : Int} {ys : List Int} {k : Nat} : insAt (y :: ys) (k + 1) x = y :: insAt ys k x := rfl
theorem insAt_perm {x : Int} {xs : List Int} {k : Nat} : (insAt xs k x).Perm (x :: xs) := by
  unfold insAt
  exact List.perm_middle.trans (by rw [List.take_append_drop])
theorem insAt_ln {x : Int} {xs : List Int} {k : Nat} : (insAt xs k x).length = xs.length + 1 := insAt_perm.length_eq
theorem insAt_asc {x : Int} : ∀ {xs : List Int}, xs.Pairwise (· < ·) → x ∉ xs → (insAt xs (lsN xs x) x).Pairwise (· < ·)
  | [], _, _ => List.pairwise_singleton _ _
  | y :: ys, h, hx => by
    have h1 := List.pairwise_cons.1 h
    unfold lsN
    split
    · rename_i hyx
      rw [insAt_cons]
      refine List.pairwise_cons.2 ⟨fun z hz => ?_, insAt_asc h1.2 (fun h9 => hx (List.mem_cons_of_mem _ h9))⟩
      rcases List.mem_cons.1 (insAt_perm.mem_iff.1 hz) with rfl | hz
      · exact hyx
      · exact h1.1 z hz
    · rename_i hyx
      have hne : x ≠ y := fun e => hx (by rw [e]; exact List.mem_cons_self)
      show (x :: y :: ys).Pairwise _
      refine List.pairwise_cons.2 ⟨fun z hz => ?_, h⟩
      rcases List.mem_cons.1 hz with rfl | hz
      · omega
      · have := h1.1 z hz
        omega
theorem putI_new {x : Int} {xs : List Int} (hx : x ∉ xs) : putI xs x = insAt xs (lsN xs x) x := by
  unfold putI
  rw [if_neg fun h => hx (by
    have := mem_ix (xs := xs) (i := (lsN xs x : Int)) (by omega) (by omega)
    rw [h.2] at this
    exact this)]
theorem putI_y {x : Int} {xs : List Int} {i : Int} (h : i = (lsN xs x : Int)) (h1 : i < xs.length) (h2 : ix xs i = x) : putI xs x = xs := by
  subst h
  unfold putI
  rw [if_pos ⟨by omega, h2⟩]
theorem putI_n {x : Int} {xs : List Int} {i : Int} (h : i = (lsN xs x : Int)) (h1 : ¬ (i < xs.length ∧ ix xs i = x)) : putI xs x = insAt xs i.toNat x := by
  subst h
  unfold putI
  rw [if_neg fun h => h1 ⟨by omega, h.2⟩]
  rfl
end Go.Proofs.YtanlaggnhocjhaaGreat
namespace Go.Proofs.YtanlaggnhocjhaaGreat
set_option linter.unusedSimpArgs false
set_option linter.unusedVariables false
open Go.RowKit Go.ChangeShapes Go.WideShapes Go.ChangeAt Go.Deep
set_option maxHeartbeats 2000000 in
theorem ct_l1Put (xs : List Int) (x : Int) (hl : xs.length ≤ 1048576) : CT Tryz.prog 60 [.inr (uS (some 3) pI xs), .inl (.int .i64 x)] (.inr (uS (some 3) pI (putI xs x))) := by
  refine CT_of Tryz.func60 rfl rfl rfl (fun w => ?_)
  have hC := upC_ext w
  try any_goals ((refine H_seq ?_; try refine H_reg ?_))
  try any_goals (refine W_assign (d := 4) (sq_stepper hC) rfl rfl rfl ?_)
  try any_goals ((refine Sq_nil ?_; try refine G_then ?_))
  try any_goals ((refine H_seq ?_; try refine H_reg ?_))
  try any_goals (refine W_assign (d := 5) (sq_stepper hC) rfl rfl rfl ?_)
  try any_goals ((refine Sq_nil ?_; try refine G_then ?_))
  try any_goals (refine H_seq ?_)
  try any_goals (refine H_block ?_)
  try any_goals ((refine H_loop (σ := Int) (fun i => (0 ≤ i ∧ i ≤ xs.length) ∧ ∀ j : Nat, (j : Int) < i → ix xs j < x) (fun i => [(0, .inr (uS (some 3) pI xs)), (1, .inl (.int .i64 x)), (5, .inl (.int .i64 i))]) (fun _ => Ext w) (fun i => (xs.length - i).toNat) 0 ⟨⟨Int.le_refl _, by omega⟩, fun j h => by omega⟩ (fun a w' h => h.sub (by repeat (first | exact trivial | refine ⟨⟨_, rfl, fun _ _ _ h => h⟩, ?_⟩ | refine ⟨⟨_, rfl, fun v w _ h => (show v = _ from h).trans (congrArg (Value.int .i64) (by first | omega | (dsimp only; omega)))⟩, ?_⟩)) (fun _ h => h)) (fun i hi => ?_); obtain ⟨hi, hall⟩ := hi))
  try any_goals (refine H_seq ?_)
  try any_goals ((refine H_seq ?_; try refine H_reg ?_))
  try any_goals (refine W_move (d := 6) (sq_stepper hC) rfl rfl rfl ?_)
  try any_goals (refine W_move (d := 7) (sq_stepper hC) rfl rfl rfl ?_)
  try any_goals (refine W_len (d := 8) (sq_stepper hC) (by kernel_rfl) rfl rfl rfl ?_)
  try any_goals (refine W_cmp (d := 9) (sq_stepper hC) rfl rfl rfl rfl rfl ?_)
  try any_goals (refine W_move (d := 10) (sq_stepper hC) rfl rfl rfl ?_)
  try any_goals ((refine W_splitG (sq_stepper hC) _ rfl _ rfl (fun hq => ?_) (fun hq => ?_) <;> ((try simp only [hqs, reduceCtorEq] at hq); try (have hq' := hq; clear hq))))
  try any_goals (first | refine W_skip (d := 11) (sq_stepper hC) rfl rfl ?_ | refine W_move (d := 11) (sq_stepper hC) rfl rfl rfl ?_)
  try any_goals (first | refine W_skip (d := 12) (sq_stepper hC) rfl rfl ?_ | refine W_move (d := 12) (sq_stepper hC) rfl rfl rfl ?_)
  try any_goals (first | refine W_skip (d := 13) (sq_stepper hC) rfl rfl ?_ | refine W_index (d := 13) (sq_stepper hC) (by kernel_rfl) rfl rfl rfl rfl (by first | omega | (dsimp only; omega)) ?_)
  try any_goals (first | refine W_skip (d := 14) (sq_stepper hC) rfl rfl ?_ | refine W_loadI (d := 14) (sq_stepper hC) (by kernel_rfl) rfl rfl rfl ?_)
  try any_goals (first | refine W_skip (d := 15) (sq_stepper hC) rfl rfl ?_ | refine W_move (d := 15) (sq_stepper hC) rfl rfl rfl ?_)
  try any_goals (first | refine W_skip (d := 16) (sq_stepper hC) rfl rfl ?_ | refine W_cmp (d := 16) (sq_stepper hC) rfl rfl rfl rfl rfl ?_)
  try any_goals (first | refine W_pickT (d := 17) (sq_stepper hC) rfl rfl rfl rfl ?_ | refine W_pickF (d := 17) (sq_stepper hC) rfl rfl rfl rfl ?_)
  try any_goals ((refine Sq_nil ?_; try refine G_then ?_))
  try any_goals (first | refine H_condF rfl (Wt.un 0 ?_) | (refine H_cond _ rfl (fun hq => ?_) (fun hq => Wt.un 0 ?_) <;> (try simp only [hqs, reduceCtorEq] at hq)))
  try any_goals (refine H_skip ?_)
  try any_goals (refine G_hold 1 ?_)
  try any_goals (refine Wt.out 0 ?_)
  try any_goals (refine H_exit ?_)
  repeat (any_goals (first | refine G_exit_then ?_ | refine G_exit_here ?_ | refine G_exit_far rfl ?_))
  try any_goals (refine G_hold 2 ?_)
  try any_goals (refine Wt.out 1 ?_)
  try any_goals (refine G_then ?_)
  try any_goals (refine H_block ?_)
  try any_goals (refine H_reg ?_)
  try any_goals (refine W_move (d := 18) (sq_stepper hC) rfl rfl rfl ?_)
  try any_goals (refine W_ar (d := 19) (sq_stepper hC) rfl rfl rfl rfl rfl (by first | omega | (dsimp only; omega)) ?_)
  try any_goals (refine W_assign (d := 5) (sq_stepper hC) rfl rfl rfl ?_)
  try any_goals (refine Sq_nil ?_)
  repeat (any_goals (first | refine G_exit_then ?_ | refine G_exit_here ?_ | refine G_exit_far rfl ?_ | refine G_normal_block ?_))
  try any_goals (refine G_again (i + 1) ⟨by omega, ?_⟩ (by omega) (by repeat (first | exact trivial | refine ⟨⟨_, rfl, fun _ _ _ h => h⟩, ?_⟩ | refine ⟨⟨_, rfl, fun v w _ h => (show v = _ from h).trans (congrArg (Value.int .i64) (by first | omega | (dsimp only; omega)))⟩, ?_⟩)) (fun _ h => h))
  try any_goals (refine Wt.out 2 ?_)
  repeat (any_goals (first | refine G_exit_then ?_ | refine G_exit_here ?_ | refine G_exit_far rfl ?_ | refine G_normal_block ?_))
  try any_goals (refine G_then ?_)
  try any_goals (refine H_seq ?_)
  try any_goals ((refine H_seq ?_; try refine H_reg ?_))
  try any_goals (refine W_move (d := 20) (sq_stepper hC) rfl rfl rfl ?_)
  try any_goals (refine W_move (d := 21) (sq_stepper hC) rfl rfl rfl ?_)
  try any_goals (refine W_len (d := 22) (sq_stepper hC) (by kernel_rfl) rfl rfl rfl ?_)
  try any_goals (refine W_cmp (d := 23) (sq_stepper hC) rfl rfl rfl rfl rfl ?_)
  try any_goals (refine W_move (d := 24) (sq_stepper hC) rfl rfl rfl ?_)
  try any_goals ((refine W_splitG (sq_stepper hC) _ rfl _ rfl (fun hq => ?_) (fun hq => ?_) <;> ((try simp only [hqs, reduceCtorEq] at hq); try (have hq' := hq; clear hq))))
  try any_goals (first | refine W_skip (d := 25) (sq_stepper hC) rfl rfl ?_ | refine W_move (d := 25) (sq_stepper hC) rfl rfl rfl ?_)
  try any_goals (first | refine W_skip (d := 26) (sq_stepper hC) rfl rfl ?_ | refine W_move (d := 26) (sq_stepper hC) rfl rfl rfl ?_)
  try any_goals (first | refine W_skip (d := 27) (sq_stepper hC) rfl rfl ?_ | refine W_index (d := 27) (sq_stepper hC) (by kernel_rfl) rfl rfl rfl rfl (by first | omega | (dsimp only; omega)) ?_)
  try any_goals (first | refine W_skip (d := 28) (sq_stepper hC) rfl rfl ?_ | refine W_loadI (d := 28) (sq_stepper hC) (by kernel_rfl) rfl rfl rfl ?_)
  try any_goals (first | refine W_skip (d := 29) (sq_stepper hC) rfl rfl ?_ | refine W_move (d := 29) (sq_stepper hC) rfl rfl rfl ?_)
  try any_goals (first | refine W_skip (d := 30) (sq_stepper hC) rfl rfl ?_ | refine W_cmp (d := 30) (sq_stepper hC) rfl rfl rfl rfl rfl ?_)
  try any_goals (first | refine W_pickT (d := 31) (sq_stepper hC) rfl rfl rfl rfl ?_ | refine W_pickF (d := 31) (sq_stepper hC) rfl rfl rfl rfl ?_)
  try any_goals ((refine Sq_nil ?_; try refine G_then ?_))
  try any_goals (first | refine H_condF rfl (Wt.un 3 ?_) | (refine H_cond _ rfl (fun hq => ?_) (fun hq => Wt.un 3 ?_) <;> (try simp only [hqs, reduceCtorEq] at hq)))
  try any_goals ((refine H_seq ?_; try refine H_reg ?_))
  try any_goals (refine W_move (d := 32) (sq_stepper hC) rfl rfl rfl ?_)
  try any_goals (refine W_assign (d := 4) (sq_stepper hC) rfl rfl rfl ?_)
  try any_goals ((refine Sq_nil ?_; try refine G_then ?_))
  try any_goals (refine H_ret ?_)
  repeat (any_goals (first | refine G_ret_then ?_ | refine G_ret_block ?_))
  try any_goals (refine Wt.out 3 ?_)
  try any_goals (refine H_skip ?_)
  try any_goals (refine G_then ?_)
  try any_goals (refine H_seq ?_)
  try any_goals (refine H_open 0 rfl (fun q6 u0 hw hr0 => ?_); have hE := hw)
  try any_goals (have hC := upC_ext q6; obtain ⟨AO, nO, cO, eO, hnO, hcO, hmO, _⟩ := id hr0; subst eO)
  try any_goals (refine H_drawT [8, 9, 10] [0, 1, 2, 3, 4, 5, 6] [7, 11, 12] (by kernel_rfl) (by kernel_rfl) hC (fun _ _ _ _ _ h => h) ?_)
  try any_goals (refine L_move rfl rfl ?_)
  try any_goals (refine L_move rfl rfl ?_)
  try any_goals (refine L_sliceFromV (k := (Phi.k pI)) (by kernel_rfl) rfl rfl rfl (by first | omega | (dsimp only; omega)) ?_)
  try any_goals (refine L_nil ?_)
  try any_goals (refine W_buildF (d := 33) wkH_stepper [] pI [] (e := 3) (by kernel_rfl) (by kernel_rfl) rfl rfl (by kernel_rfl) rfl rfl rfl trivial ?_)
  try any_goals (refine W_moveR (d := 34) wkH_stepper (U := uS (some 3) pI xs) (fun w' h => IsS.up h hr0) rfl rfl rfl ?_)
  try any_goals (refine W_move (d := 35) wkH_stepper rfl rfl rfl ?_)
  try any_goals (refine W_sliceTo (d := 36) wkH_stepper (by kernel_rfl) rfl rfl rfl rfl ⟨by omega, by omega⟩ ?_)
  try any_goals (refine W_appNewZ (d := 37) wkH_stepper (s := q6.heap.size) (e := 3) (hfl := flat_I) (fun w' h => h.size) (by kernel_rfl) (by kernel_rfl) rfl rfl rfl rfl (by simp only [List.length_append, List.length_take, List.length_drop, List.length_cons, List.length_nil]; omega) ?_)
  try any_goals (refine W_move (d := 38) wkH_stepper rfl rfl rfl ?_)
  try any_goals (refine W_buildS (d := 39) wkH_stepper [(Operand.tmp 38)] pI [_] (e := 3) (by kernel_rfl) (by kernel_rfl) rfl rfl (by kernel_rfl) rfl rfl rfl ⟨elem_I, trivial⟩ ?_)
  try any_goals (refine WkH_nil ?_)
  try any_goals (refine Sq_openO 37 rfl (fun v37 => ?_); refine Sq_appSZ (d := 40) 0 (Ψ := pI) (zs := [x]) rfl (by repeat (first | exact trivial | refine ⟨?_, ?_⟩)) (by kernel_rfl) (by kernel_rfl) rfl rfl rfl (by simp only [List.length_append, List.length_take, List.length_drop, List.length_cons, List.length_nil]; omega) (fun v40 => ?_))
  try any_goals (refine Sq_recall 43 (U := uS (some 3) pI ((xs).drop (i).toNat)) (fun w' h => IsS.up (Sep.ext h) (IsS.dropV hr0 (by omega))) rfl ?_; refine Sq_appSZ (d := 44) 0 (Ψ := pI) rfl (by repeat (first | exact trivial | refine ⟨?_, ?_⟩)) (by kernel_rfl) (by kernel_rfl) rfl rfl rfl (by simp only [List.length_append, List.length_take, List.length_drop, List.length_cons, List.length_nil]; omega) (fun v44 => ?_))
  try any_goals (refine W_assign (d := 4) (sq_stepper upC_sep) rfl rfl rfl ?_)
  try any_goals ((refine Sq_nil ?_; try refine G_then ?_))
  try any_goals (refine H_ret ?_)
  repeat (any_goals (first | refine G_ret_then ?_ | refine G_ret_block ?_))
  all_goals (try dsimp only)
  all_goals first
    | (intro j hj
       rcases Int.lt_or_le j i with h1 | h1
       · exact hall j h1
       · have e : (j : Int) = i := by omega
         rw [e]
         assumption)
    | (have hk : i = (lsN xs x : Int) := by
         have := lsN_eq (xs := xs) (x := x) (i := i.toNat) (by omega) (fun j hj => hall j (by omega)) (by
           rw [show ((i.toNat : Nat) : Int) = i by omega]
           omega)
         omega
       exact R1 rfl (fun _ h => h) rfl (fun v w' _ hv => by rw [putI_y hk (by omega) (by omega)]; exact hv))
    | (have hk : i = (lsN xs x : Int) := by
         have := lsN_eq (xs := xs) (x := x) (i := i.toNat) (by omega) (fun j hj => hall j (by omega)) (by
           rw [show ((i.toNat : Nat) : Int) = i by omega]
           omega)
         omega
       exact R1 rfl (fun _ h => hE.trans h.ext) rfl (fun v w' hc hv => by rw [putI_n hk (by omega), ← ins_eq, show v = _ from hv]; exact hc.isS (m := 0) rfl))
    | trace_state
end Go.Proofs.YtanlaggnhocjhaaGreat

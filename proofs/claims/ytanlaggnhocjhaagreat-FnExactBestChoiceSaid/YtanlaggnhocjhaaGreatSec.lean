/- Delays of all trips, both ways; their sums. -/
import Derived.Test.YtanlaggnhocjhaaGreatBlk
import Derived.Test.YtanlaggnhocjhaaGreatDel
namespace Go.Proofs.YtanlaggnhocjhaaGreat
set_option linter.unusedSimpArgs false
set_option linter.unusedVariables false
open Go.RowKit Go.ChangeShapes Go.WideShapes Go.ChangeAt Go.Deep
def fndD (xs : List Dly) (id : Int) : Int := firstI (fun j => decide ((ix xs j).T = id)) xs.length
/-- The primary delay of a trip. -/
def prim (xs : List Dly) (id : Int) : Int := if 0 ≤ fndD xs id then (ix xs (fndD xs id)).M else 0
theorem prim_at {xs : List Dly} {id : Int} {i : Nat} (hi : i < xs.length) (h : (ix xs i).T = id) (hall : ∀ j : Nat, j < i → decide ((ix xs j).T = id) = false) : prim xs id = (ix xs i).M := by
  have e : fndD xs id = i := firstI_some (q := fun j : Nat => decide ((ix xs j).T = id)) (decide_eq_true h) hall hi
  rw [prim, e, if_pos (by omega)]
theorem prim_no {xs : List Dly} {id : Int} {i : Nat} (hi : xs.length ≤ i) (hall : ∀ j : Nat, j < i → decide ((ix xs j).T = id) = false) : prim xs id = 0 := by
  have e : fndD xs id = -1 := firstI_none (q := fun j : Nat => decide ((ix xs j).T = id)) fun j hj => hall j (by omega)
  rw [prim, e, if_neg (by omega)]
def MinOk (xs : List Dly) : Prop := ∀ z ∈ xs, 0 ≤ z.M ∧ z.M ≤ 240
theorem prim_bd {xs : List Dly} (h : MinOk xs) (id : Int) : 0 ≤ prim xs id ∧ prim xs id ≤ 240 := by
  unfold prim
  split
  · exact h _ (mem_ix (by assumption) firstI_bd.2)
  · omega
theorem delsB_min {t : Tab} {xs : List Dly} (h : delsB t xs = true) : MinOk xs := fun z hz => mem_all (p := fun z => 0 ≤ z.M ∧ z.M ≤ 240) hz fun j hj => by
  have := allB_t.1 h j hj
  rw [delAt_t] at this
  omega
theorem ct_l17Primary {e : Option TypeId} (xs : List Dly) (id : Int) : CT Tryz.prog 85 [.inr (uS e pDly xs), .inl (.int .i64 id)] (.inl (.int .i64 (prim xs id))) := by
  refine CT_len fun hlen => ?_
  refine CT_of Tryz.func85 rfl rfl rfl (fun w => ?_)
  have hC := upC_ext w
  try any_goals ((refine H_seq ?_; try refine H_reg ?_))
  try any_goals (refine W_assign (d := 4) (sq_stepper hC) rfl rfl rfl ?_)
  try any_goals ((refine Sq_nil ?_; try refine G_then ?_))
  try any_goals (refine H_seq ?_)
  try any_goals ((refine H_seq ?_; try refine H_reg ?_))
  try any_goals (refine W_assign (d := 5) (sq_stepper hC) rfl rfl rfl ?_)
  try any_goals ((refine Sq_nil ?_; try refine G_then ?_))
  try any_goals (refine H_block ?_)
  try any_goals ((refine H_loop (fun i : Nat => i ≤ xs.length ∧ ∀ j : Nat, j < i → decide ((ix xs j).T = id) = false) (fun i => [(0, .inr (uS e pDly xs)), (1, .inl (.int .i64 id)), (5, .inl (.int .i64 i))]) (fun _ => Ext w) (fun i => xs.length - i) 0 ⟨by omega, fun j hj => by omega⟩ (fun a w h => h.sub (by repeat (first | exact trivial | refine ⟨⟨_, rfl, fun _ _ _ h => h⟩, ?_⟩ | refine ⟨⟨_, rfl, fun v w _ h => (show v = _ from h).trans (congrArg (Value.int .i64) (by first | omega | (dsimp only; omega)))⟩, ?_⟩)) fun _ h => h) (fun i hi => ?_); obtain ⟨h1, hall⟩ := hi))
  try any_goals (refine H_seq ?_)
  try any_goals ((refine H_seq ?_; try refine H_reg ?_))
  try any_goals (refine W_move (d := 6) (sq_stepper hC) rfl rfl rfl ?_)
  try any_goals (refine W_move (d := 7) (sq_stepper hC) rfl rfl rfl ?_)
  try any_goals (refine W_len (d := 8) (sq_stepper hC) (by kernel_rfl) rfl rfl rfl ?_)
  try any_goals (refine W_cmp (d := 9) (sq_stepper hC) rfl rfl rfl rfl rfl ?_)
  try any_goals ((refine Sq_nil ?_; try refine G_then ?_))
  try any_goals ((refine H_cond _ rfl (fun hq => ?_) (fun hq => ?_) <;> (try simp only [hqs, reduceCtorEq] at hq)))
  try any_goals (refine H_skip ?_)
  try any_goals (refine H_exit ?_)
  repeat (any_goals (first | refine G_exit_then ?_ | refine G_exit_here ?_ | refine G_exit_far rfl ?_))
  try any_goals (refine G_then ?_)
  try any_goals (refine H_seq ?_)
  try any_goals (refine H_block ?_)
  try any_goals (first | (refine H_seq ?_; try refine H_reg ?_) | refine H_reg ?_)
  try any_goals (refine W_move (d := 12) (sq_stepper hC) rfl rfl rfl ?_)
  try any_goals (refine W_move (d := 13) (sq_stepper hC) rfl rfl rfl ?_)
  try any_goals (refine W_index (d := 14) (sq_stepper hC) (by kernel_rfl) rfl rfl rfl rfl (by first | omega | (dsimp only; omega)) ?_)
  try any_goals (refine W_fieldG (d := 15) (sq_stepper hC) (Proj.head _ _ _) (by kernel_rfl) rfl rfl rfl ?_)
  try any_goals (refine W_loadI (d := 16) (sq_stepper hC) (by kernel_rfl) rfl rfl rfl ?_)
  try any_goals (refine W_move (d := 17) (sq_stepper hC) rfl rfl rfl ?_)
  try any_goals (refine W_cmp (d := 18) (sq_stepper hC) rfl rfl rfl rfl rfl ?_)
  try any_goals ((refine Sq_nil ?_; try refine G_then ?_))
  try any_goals ((refine H_cond _ rfl (fun hq => ?_) (fun hq => ?_) <;> (try simp only [hqs, reduceCtorEq] at hq)))
  try any_goals ((refine H_seq ?_; try refine H_reg ?_))
  try any_goals (refine W_move (d := 19) (sq_stepper hC) rfl rfl rfl ?_)
  try any_goals (refine W_move (d := 20) (sq_stepper hC) rfl rfl rfl ?_)
  try any_goals (refine W_index (d := 21) (sq_stepper hC) (by kernel_rfl) rfl rfl rfl rfl (by first | omega | (dsimp only; omega)) ?_)
  try any_goals (refine W_fieldG (d := 22) (sq_stepper hC) (Proj.tail _ _ (Proj.head _ _ _)) (by kernel_rfl) rfl rfl rfl ?_)
  try any_goals (refine W_loadI (d := 23) (sq_stepper hC) (by kernel_rfl) rfl rfl rfl ?_)
  try any_goals (refine W_assign (d := 4) (sq_stepper hC) rfl rfl rfl ?_)
  try any_goals ((refine Sq_nil ?_; try refine G_then ?_))
  try any_goals (refine H_ret ?_)
  repeat (any_goals (first | refine G_ret_then ?_ | refine G_ret_block ?_))
  try any_goals (refine H_skip ?_)
  repeat (any_goals (first | refine G_exit_then ?_ | refine G_exit_here ?_ | refine G_exit_far rfl ?_ | refine G_normal_block ?_))
  try any_goals (refine G_then ?_)
  try any_goals (refine H_reg ?_)
  try any_goals (refine W_move (d := 10) (sq_stepper hC) rfl rfl rfl ?_)
  try any_goals (refine W_ar (d := 11) (sq_stepper hC) rfl rfl rfl rfl rfl (by first | omega | (dsimp only; omega)) ?_)
  try any_goals (refine W_assign (d := 5) (sq_stepper hC) rfl rfl rfl ?_)
  try any_goals (refine Sq_nil ?_)
  try any_goals (refine G_again (i + 1) ⟨by omega, fst_step (q := fun j : Nat => decide ((ix xs j).T = id)) hall (decide_eq_false (by omega))⟩ (by omega) (by repeat (first | exact trivial | refine ⟨⟨_, rfl, fun _ _ _ h => h⟩, ?_⟩ | refine ⟨⟨_, rfl, fun v w _ h => (show v = _ from h).trans (congrArg (Value.int .i64) (by first | omega | (dsimp only; omega)))⟩, ?_⟩)) (fun _ h => h))
  repeat (any_goals (first | refine G_exit_then ?_ | refine G_exit_here ?_ | refine G_exit_far rfl ?_ | refine G_normal_block ?_))
  repeat (any_goals (first | refine G_ret_then ?_ | refine G_ret_block ?_))
  all_goals first
    | exact R1v rfl (fun _ h => h) rfl (congrArg (Value.int .i64) (prim_at (i := i) (by omega) (by omega) hall).symm)
    | exact R1v rfl (fun _ h => h) rfl (congrArg (Value.int .i64) (prim_no (i := i) (by omega) hall).symm)
    | trace_state
theorem ct_primaryOf {e : Option TypeId} (xs : List Dly) (id : Int) : CT Tryz.prog 108 [.inr (uS e pDly xs), .inl (.int .i64 id)] (.inl (.int .i64 (prim xs id))) := by
  refine CT_len fun hlen => ?_
  refine CT_of Tryz.func108 rfl rfl rfl (fun w => ?_)
  have hC := upC_ext w
  try any_goals ((refine H_seq ?_; try refine H_reg ?_))
  try any_goals (refine W_assign (d := 4) (sq_stepper hC) rfl rfl rfl ?_)
  try any_goals ((refine Sq_nil ?_; try refine G_then ?_))
  try any_goals (refine H_seq ?_)
  try any_goals ((refine H_seq ?_; try refine H_reg ?_))
  try any_goals (refine W_move (d := 7) (sq_stepper hC) rfl rfl rfl ?_)
  try any_goals (refine W_len (d := 8) (sq_stepper hC) (by kernel_rfl) rfl rfl rfl ?_)
  try any_goals (refine W_move (d := 9) (sq_stepper hC) rfl rfl rfl ?_)
  try any_goals ((refine Sq_nil ?_; try refine G_then ?_))
  try any_goals (refine H_block ?_)
  try any_goals ((refine H_loop (fun i : Nat => i ≤ xs.length ∧ ∀ j : Nat, j < i → decide ((ix xs j).T = id) = false) (fun i => [(1, .inl (.int .i64 id)), (7, .inr (uS e pDly xs)), (8, .inl (.int .i64 xs.length)), (9, .inl (.int .i64 i))]) (fun _ => Ext w) (fun i => xs.length - i) 0 ⟨by omega, fun j hj => by omega⟩ (fun a w h => h.sub (by repeat (first | exact trivial | refine ⟨⟨_, rfl, fun _ _ _ h => h⟩, ?_⟩ | refine ⟨⟨_, rfl, fun v w _ h => (show v = _ from h).trans (congrArg (Value.int .i64) (by first | omega | (dsimp only; omega)))⟩, ?_⟩)) fun _ h => h) (fun i hi => ?_); obtain ⟨h1, hall⟩ := hi))
  try any_goals ((refine H_seq ?_; try refine H_reg ?_))
  try any_goals (refine W_cmp (d := 10) (sq_stepper hC) rfl rfl rfl rfl rfl ?_)
  try any_goals ((refine Sq_nil ?_; try refine G_then ?_))
  try any_goals (refine H_seq ?_)
  try any_goals ((refine H_cond _ rfl (fun hq => ?_) (fun hq => ?_) <;> (try simp only [hqs, reduceCtorEq] at hq)))
  try any_goals (refine H_skip ?_)
  try any_goals (refine H_exit ?_)
  repeat (any_goals (first | refine G_exit_then ?_ | refine G_exit_here ?_ | refine G_exit_far rfl ?_))
  try any_goals (refine G_then ?_)
  try any_goals (refine H_seq ?_)
  try any_goals (refine H_block ?_)
  try any_goals (first | (refine H_seq ?_; try refine H_reg ?_) | refine H_reg ?_)
  try any_goals (refine W_index (d := 11) (sq_stepper hC) (by kernel_rfl) rfl rfl rfl rfl (by first | omega | (dsimp only; omega)) ?_)
  try any_goals (refine W_loadA (d := 12) (sq_stepper hC) (by kernel_rfl) rfl rfl rfl ?_)
  try any_goals (refine Sq_alloc (d := 6) (by kernel_rfl) hC rfl ?_)
  try any_goals (refine Pend_storeA (by kernel_rfl) hC rfl rfl ?_)
  try any_goals ((refine Sq_nil ?_; try refine G_then ?_))
  try any_goals ((refine H_seq ?_; try refine H_reg ?_))
  try any_goals (refine W_fieldG (d := 13) (sq_stepper hC) (Proj.head _ _ _) (by kernel_rfl) rfl rfl rfl ?_)
  try any_goals (refine W_loadI (d := 14) (sq_stepper hC) (by kernel_rfl) rfl rfl rfl ?_)
  try any_goals (refine W_move (d := 15) (sq_stepper hC) rfl rfl rfl ?_)
  try any_goals (refine W_cmp (d := 16) (sq_stepper hC) rfl rfl rfl rfl rfl ?_)
  try any_goals ((refine Sq_nil ?_; try refine G_then ?_))
  try any_goals ((refine H_cond _ rfl (fun hq => ?_) (fun hq => ?_) <;> (try simp only [hqs, reduceCtorEq] at hq)))
  try any_goals ((refine H_seq ?_; try refine H_reg ?_))
  try any_goals (refine W_fieldG (d := 17) (sq_stepper hC) (Proj.tail _ _ (Proj.head _ _ _)) (by kernel_rfl) rfl rfl rfl ?_)
  try any_goals (refine W_loadI (d := 18) (sq_stepper hC) (by kernel_rfl) rfl rfl rfl ?_)
  try any_goals (refine W_assign (d := 4) (sq_stepper hC) rfl rfl rfl ?_)
  try any_goals ((refine Sq_nil ?_; try refine G_then ?_))
  try any_goals (refine H_ret ?_)
  repeat (any_goals (first | refine G_ret_then ?_ | refine G_ret_block ?_))
  try any_goals (refine H_skip ?_)
  repeat (any_goals (first | refine G_exit_then ?_ | refine G_exit_here ?_ | refine G_exit_far rfl ?_ | refine G_normal_block ?_))
  try any_goals (refine G_then ?_)
  try any_goals (refine H_reg ?_)
  try any_goals (refine W_ar (d := 19) (sq_stepper hC) rfl rfl rfl rfl rfl (by first | omega | (dsimp only; omega)) ?_)
  try any_goals (refine W_move (d := 9) (sq_stepper hC) rfl rfl rfl ?_)
  try any_goals (refine Sq_nil ?_)
  try any_goals (refine G_again (i + 1) ⟨by omega, fst_step (q := fun j : Nat => decide ((ix xs j).T = id)) hall (decide_eq_false (by omega))⟩ (by omega) (by repeat (first | exact trivial | refine ⟨⟨_, rfl, fun _ _ _ h => h⟩, ?_⟩ | refine ⟨⟨_, rfl, fun v w _ h => (show v = _ from h).trans (congrArg (Value.int .i64) (by first | omega | (dsimp only; omega)))⟩, ?_⟩)) (fun _ h => h))
  repeat (any_goals (first | refine G_exit_then ?_ | refine G_exit_here ?_ | refine G_exit_far rfl ?_ | refine G_normal_block ?_))
  repeat (any_goals (first | refine G_ret_then ?_ | refine G_ret_block ?_))
  all_goals first
    | exact R1v rfl (fun _ h => h) rfl (congrArg (Value.int .i64) (prim_at (i := i) (by omega) (by omega) hall).symm)
    | exact R1v rfl (fun _ h => h) rfl (congrArg (Value.int .i64) (prim_no (i := i) (by omega) hall).symm)
    | trace_state
/-! The delays, place by place of the blocks. -/
def stD (t : Tab) (f : Flt) (B : List (List Int)) (o : List Int) (i k : Int) : Int :=
  if 0 < k then max (ix t.T (fndT t (ix (ix B i) k))).S (endT t (ix t.T (fndT t (ix (ix B i) (k - 1)))) + ix o (fndT t (ix (ix B i) (k - 1))) + f.T + deadT t f (ix t.T (fndT t (ix (ix B i) (k - 1)))) (ix t.T (fndT t (ix (ix B i) k)))) else (ix t.T (fndT t (ix (ix B i) k))).S
def nwD (t : Tab) (f : Flt) (B : List (List Int)) (xs : List Dly) (o : List Int) (i k : Int) : Int := stD t f B o i k + prim xs (ix (ix B i) k) - (ix t.T (fndT t (ix (ix B i) k))).S
def dIn (t : Tab) (f : Flt) (B : List (List Int)) (xs : List Dly) (i : Nat) : Nat → List Int → List Int
  | 0, o => o
  | k + 1, o => (dIn t f B xs i k o).set (fndT t (ix (ix B i) k)).toNat (nwD t f B xs (dIn t f B xs i k o) i k)
def dOut (t : Tab) (f : Flt) (B : List (List Int)) (xs : List Dly) : Nat → List Int
  | 0 => List.replicate t.T.length 0
  | i + 1 => dIn t f B xs i (ix B i).length (dOut t f B xs i)
def delR (t : Tab) (f : Flt) (B : List (List Int)) (xs : List Dly) : List Int := dOut t f B xs B.length
def DB (t : Tab) (o : List Int) (m : Int) : Prop := o.length = t.T.length ∧ ∀ j : Int, 0 ≤ j → j < t.T.length → 0 ≤ ix o j ∧ ix o j ≤ 2200 * m
theorem ix_setI {xs : List Int} {a j z : Int} (ha : 0 ≤ a) (h0 : 0 ≤ j) (h1 : j < xs.length) : ix (xs.set a.toNat z) j = if a = j then z else ix xs j := by
  unfold ix
  rw [List.getD_eq_getElem?_getD, List.getElem?_set, List.getD_eq_getElem?_getD]
  by_cases e : a = j
  · subst e
    rw [if_pos rfl, if_pos (by omega), if_pos rfl]; rfl
  · rw [if_neg (by omega), if_neg e]
theorem DB.set {t : Tab} {o : List Int} {m a z : Int} (h : DB t o m) (ha : 0 ≤ a) (hz : 0 ≤ z ∧ z ≤ 2200 * (m + 1)) : DB t (o.set a.toNat z) (m + 1) := by
  refine ⟨by rw [List.length_set]; exact h.1, fun j h0 h1 => ?_⟩
  rw [ix_setI ha h0 (by rw [h.1]; exact h1)]
  have := h.2 j h0 h1
  split <;> omega
theorem DB.le {t : Tab} {o : List Int} {m n : Int} (h : DB t o m) (hm : m ≤ n) : DB t o n := ⟨h.1, fun j h0 h1 => by have := h.2 j h0 h1; omega⟩
structure BkK (t : Tab) (f : Flt) (B : List (List Int)) (xs : List Dly) : Prop where
  hv : tabB t = true
  hf : fltB t.N.S.length f = true
  ha : ∀ i k : Nat, (i : Int) < B.length → (k : Int) < (ix B i).length → 0 ≤ fndT t (ix (ix B i) k)
  hn : (B.flatten.length : Int) ≤ 12
  hm : MinOk xs
section
variable {t : Tab} {f : Flt} {B : List (List Int)} {xs : List Dly} (h : BkK t f B xs)
include h
theorem BkK.at {i k : Nat} (hi : (i : Int) < B.length) (hk : (k : Int) < (ix B i).length) : 0 ≤ fndT t (ix (ix B i) k) ∧ fndT t (ix (ix B i) k) < t.T.length := ⟨h.ha i k hi hk, fndT_bd.2⟩
theorem BkK.pr {i k : Nat} (hi : (i : Int) < B.length) (hk : (k : Int) < (ix B i).length) (h0 : (0 : Int) < k) : 0 ≤ fndT t (ix (ix B i) ((k : Int) - 1)) ∧ fndT t (ix (ix B i) ((k : Int) - 1)) < t.T.length := by
  have := h.at (i := i) (k := k - 1) hi (by omega)
  rwa [show ((k - 1 : Nat) : Int) = (k : Int) - 1 by omega] at this
theorem BkK.n12 {i k : Nat} (hi : (i : Int) < B.length) (hk : (k : Int) ≤ (ix B i).length) : ((seenL B i k).length : Int) ≤ 12 := by
  have h1 := seenL_len hi hk
  have h2 := h.hn
  omega
theorem BkK.nw {i k : Nat} (hi : (i : Int) < B.length) (hk : (k : Int) < (ix B i).length) {o : List Int} {m : Int} (ho : DB t o m) (hm : 0 ≤ m ∧ m ≤ 12) : 0 ≤ nwD t f B xs o i k ∧ nwD t f B xs o i k ≤ 2200 * (m + 1) := by
  have h1 := tr_ok h.hv (h.at hi hk)
  have h2 := prim_bd h.hm (ix (ix B i) k)
  have h3 := (fltB_t h.hf).2.1
  unfold nwD stD
  split
  · rename_i hk0
    have h4 := h.pr hi hk hk0
    have h5 := tr_ok h.hv h4
    have h6 := (dead_b h.hv h.hf h5.1 h1.1).2.2
    have h7 := ho.2 _ h4.1 h4.2
    omega
  · omega
theorem BkK.dIn {i k : Nat} (hi : (i : Int) < B.length) (hk : (k : Int) ≤ (ix B i).length) {o : List Int} (ho : DB t o (seenL B i 0).length) : DB t (dIn t f B xs i k o) (seenL B i k).length := by
  induction k with
  | zero => exact ho
  | succ k ih =>
    have h1 := ih (by omega)
    have e : ((seenL B i (k + 1)).length : Int) = (seenL B i k).length + 1 := by rw [seenL_step (by omega)]; simp
    rw [e]
    exact h1.set (h.at hi (by omega)).1 (h.nw hi (by omega) h1 ⟨by omega, h.n12 hi (by omega)⟩)
theorem BkK.dOut {i : Nat} (hi : (i : Int) ≤ B.length) : DB t (dOut t f B xs i) (seenL B i 0).length := by
  induction i with
  | zero =>
    refine ⟨by simp [Go.Proofs.YtanlaggnhocjhaaGreat.dOut], fun j h0 h1 => ?_⟩
    have e : ix (List.replicate t.T.length (0 : Int)) j = 0 := by
      unfold ix
      rw [List.getD_eq_getElem?_getD, List.getElem?_replicate]
      split <;> rfl
    rw [Go.Proofs.YtanlaggnhocjhaaGreat.dOut, e]
    omega
  | succ i ih =>
    rw [Go.Proofs.YtanlaggnhocjhaaGreat.dOut, seenL_next (k := (ix B i).length) (by omega) (by omega)]
    exact h.dIn (by omega) (by omega) (ih (by omega))
theorem BkK.all : DB t (delR t f B xs) 12 := (h.dOut (i := B.length) (by omega)).le (by
  rw [seenL_all (Nat.le_refl _)]
  have h2 := h.hn
  omega)
theorem BkK.o {i k : Nat} (hi : (i : Int) < B.length) (hk : (k : Int) < (ix B i).length) (h0 : (0 : Int) < k) : 0 ≤ ix (Go.Proofs.YtanlaggnhocjhaaGreat.dIn t f B xs i k (Go.Proofs.YtanlaggnhocjhaaGreat.dOut t f B xs i)) (fndT t (ix (ix B i) ((k : Int) - 1))) ∧ ix (Go.Proofs.YtanlaggnhocjhaaGreat.dIn t f B xs i k (Go.Proofs.YtanlaggnhocjhaaGreat.dOut t f B xs i)) (fndT t (ix (ix B i) ((k : Int) - 1))) ≤ 26400 := by
  have h4 := h.pr hi hk h0
  have h1 := (h.dIn hi (by omega : (k : Int) ≤ _) (h.dOut (by omega))).2 _ h4.1 h4.2
  have h2 := h.n12 hi (by omega : (k : Int) ≤ _)
  omega
end
theorem dIn_len {t : Tab} {f : Flt} {B : List (List Int)} {xs : List Dly} {i k : Nat} {o : List Int} : (dIn t f B xs i k o).length = o.length := by
  induction k with
  | zero => rfl
  | succ k ih => rw [dIn, List.length_set, ih]
theorem dOut_len {t : Tab} {f : Flt} {B : List (List Int)} {xs : List Dly} {i : Nat} : (dOut t f B xs i).length = t.T.length := by
  induction i with
  | zero => simp [dOut]
  | succ i ih => rw [dOut, dIn_len, ih]
set_option maxHeartbeats 1000000 in
theorem cg_l17Delays {e1 e2 e3 : Option TypeId} (t : Tab) (f : Flt) (B : List (List Int)) (xs : List Dly) (hk : BkK t f B xs) : CTG Tryz.prog 55 [.inr (uA bTab t), .inr (uA bFlt f), .inr (uS e1 (pS e2 pI) B), .inr (uS e3 pDly xs)] (fun s => .inr (uO s oIntS (delR t f B xs))) := by
  refine CTG_of Tryz.func55 rfl rfl rfl (fun w s hs => ?_)
  have hC := upC_ext w
  have hv := hk.hv
  have hf := hk.hf
  have h12 := (tabB_k hv).2.1
  have hft := (fltB_t hf).2.1
  have hdl : ∀ i k, (dIn t f B xs i k (dOut t f B xs i)).length = t.T.length := fun i k => by rw [dIn_len, dOut_len]
  try any_goals ((refine H_seq ?_; try refine H_reg ?_))
  try any_goals (refine W_boxA (d := 4) (sq_stepper hC) rfl rfl rfl ?_)
  try any_goals (refine W_boxA (d := 5) (sq_stepper hC) rfl rfl rfl ?_)
  try any_goals (refine W_assign (d := 8) (sq_stepper hC) rfl rfl rfl ?_)
  try any_goals ((refine Sq_nil ?_; try refine G_then ?_))
  try any_goals (refine H_seq ?_)
  try any_goals (have hE : Ext _ _ := Ext.refl w)
  try any_goals (refine H_open 4 rfl (fun q u4 hw hr4 => ?_); have hE := hE.trans hw)
  try any_goals (refine H_open 5 rfl (fun q u5 hw hr5 => ?_); have hE := hE.trans hw; have hr4 := UR.lift hw hr4)
  try any_goals (refine H_open 2 rfl (fun q u2 hw hr2 => ?_); have hE := hE.trans hw; have hr4 := UR.lift hw hr4; have hr5 := UR.lift hw hr5)
  try any_goals (refine H_open 3 rfl (fun q u3 hw hr3 => ?_); have hE := hE.trans hw; have hr4 := UR.lift hw hr4; have hr5 := UR.lift hw hr5; have hr2 := UR.lift hw hr2)
  try any_goals (refine H_weakenC (C' := Sep q []) (fun w' h => sep_start h) ?_; have hC : UpC (Sep q []) := upC_sep)
  try any_goals (have hbl := isS_le hr2; have hbi := isS_le2 hr2)
  try any_goals (refine H_reg ?_)
  try any_goals (refine W_fieldUP (d := 15) (sq_stepper upC_sep) (fun w' h => UR.lift (Sep.ext h) hr4) (Proj.tail _ _ (Proj.head _ _ _)) (by kernel_rfl) rfl rfl rfl ?_)
  try any_goals (refine W_loadS (d := 16) (sq_stepper upC_sep) (by kernel_rfl) rfl rfl rfl ?_)
  try any_goals (refine W_len (d := 17) (sq_stepper upC_sep) (by kernel_rfl) rfl rfl rfl ?_)
  try any_goals ((refine Sq_makeS (d := 18) (e := 3) pI 0 [.int .i64 0] (by kernel_rfl) (by kernel_rfl) (by kernel_rfl) (fun _ => rfl) rfl rfl rfl ⟨by omega, by omega⟩ (fun v9 => ?_)))
  try any_goals (refine W_assign (d := 9) (sq_stepper upC_sep) rfl rfl rfl ?_)
  try any_goals ((refine Sq_nil ?_; try refine G_then ?_))
  try any_goals (refine H_seq ?_)
  try any_goals ((refine H_seq ?_; try refine H_reg ?_))
  try any_goals (refine W_assign (d := 10) (sq_stepper upC_sep) rfl rfl rfl ?_)
  try any_goals ((refine Sq_nil ?_; try refine G_then ?_))
  try any_goals (refine H_block ?_)
  try any_goals ((refine H_loop (σ := Nat) (fun i => i ≤ B.length) (fun i => [(2, .inl u2), (3, .inl u3), (4, .inl u4), (5, .inl u5), (9, .inl v9), (10, .inl (.int .i64 i))]) (fun i => Sep q [.sl Int 3 pI (dOut t f B xs i) v9]) (fun i => B.length - i) 0 (Nat.zero_le _) (fun a w' h => h.sub (by repeat (first | exact trivial | refine ⟨⟨_, rfl, fun _ _ _ h => h⟩, ?_⟩ | refine ⟨⟨_, rfl, fun v w _ h => (show v = _ from h).trans (congrArg (Value.int .i64) (by first | omega | (dsimp only; omega)))⟩, ?_⟩)) (fun w' h => by simpa [dOut] using h)) (fun i hi => ?_)))
  try any_goals (refine H_seq ?_)
  try any_goals ((refine H_seq ?_; try refine H_reg ?_))
  try any_goals (refine W_move (d := 19) (sq_stepper upC_sep) rfl rfl rfl ?_)
  try any_goals (refine W_moveR (d := 20) (sq_stepper upC_sep) (U := uS e1 (pS e2 pI) B) (fun w' h => UR.lift (Sep.ext h) hr2) rfl rfl rfl ?_)
  try any_goals (refine W_len (d := 21) (sq_stepper upC_sep) (by kernel_rfl) rfl rfl rfl ?_)
  try any_goals (refine W_cmp (d := 22) (sq_stepper upC_sep) rfl rfl rfl rfl rfl ?_)
  try any_goals ((refine Sq_nil ?_; try refine G_then ?_))
  try any_goals ((refine H_cond _ rfl (fun hq => ?_) (fun hq => ?_) <;> (try simp only [hqs, reduceCtorEq] at hq)))
  try any_goals (first | ((have hi1 : (i : Int) < B.length := hq)) | skip)
  try any_goals (skip)
  try any_goals (skip)
  try any_goals (refine H_skip ?_)
  try any_goals (refine H_exit ?_)
  repeat (any_goals (first | refine G_exit_then ?_ | refine G_exit_here ?_ | refine G_exit_far rfl ?_))
  try any_goals (refine G_then ?_)
  try any_goals (refine H_seq ?_)
  try any_goals (refine H_block ?_)
  try any_goals (first | (refine H_seq ?_; try refine H_reg ?_) | refine H_reg ?_)
  try any_goals (refine W_assign (d := 11) (sq_stepper upC_sep) rfl rfl rfl ?_)
  try any_goals ((refine Sq_nil ?_; try refine G_then ?_))
  try any_goals (refine H_block ?_)
  try any_goals ((refine H_loop (σ := Nat) (fun k => k ≤ (ix B i).length) (fun k => [(2, .inl u2), (3, .inl u3), (4, .inl u4), (5, .inl u5), (9, .inl v9), (10, .inl (.int .i64 i)), (11, .inl (.int .i64 k))]) (fun k => Sep q [.sl Int 3 pI (dIn t f B xs i k (dOut t f B xs i)) v9]) (fun k => (ix B i).length - k) 0 (Nat.zero_le _) (fun a w' h => h.sub (by repeat (first | exact trivial | refine ⟨⟨_, rfl, fun _ _ _ h => h⟩, ?_⟩ | refine ⟨⟨_, rfl, fun v w _ h => (show v = _ from h).trans (congrArg (Value.int .i64) (by first | omega | (dsimp only; omega)))⟩, ?_⟩)) (fun w' h => h)) (fun k hk1 => ?_); have hbk := hbi i (by omega) (by omega); have hdk := hdl i k))
  try any_goals (refine H_seq ?_)
  try any_goals ((refine H_seq ?_; try refine H_reg ?_))
  try any_goals (refine W_move (d := 25) (sq_stepper upC_sep) rfl rfl rfl ?_)
  try any_goals (refine W_moveR (d := 26) (sq_stepper upC_sep) (U := uS e1 (pS e2 pI) B) (fun w' h => UR.lift (Sep.ext h) hr2) rfl rfl rfl ?_)
  try any_goals (refine W_move (d := 27) (sq_stepper upC_sep) rfl rfl rfl ?_)
  try any_goals (refine W_index (d := 28) (sq_stepper upC_sep) (by kernel_rfl) rfl rfl rfl rfl (by first | omega | (dsimp only; omega)) ?_)
  try any_goals (refine W_loadS (d := 29) (sq_stepper upC_sep) (by kernel_rfl) rfl rfl rfl ?_)
  try any_goals (refine W_len (d := 30) (sq_stepper upC_sep) (by kernel_rfl) rfl rfl rfl ?_)
  try any_goals (refine W_cmp (d := 31) (sq_stepper upC_sep) rfl rfl rfl rfl rfl ?_)
  try any_goals ((refine Sq_nil ?_; try refine G_then ?_))
  try any_goals ((refine H_cond _ rfl (fun hq => ?_) (fun hq => ?_) <;> (try simp only [hqs, reduceCtorEq] at hq)))
  try any_goals (skip)
  try any_goals (first | ((have hq1 : (k : Int) < (ix B i).length := hq; have ha1 := hk.at hi1 hq1; have ht1 := tr_ok hv ha1; have hpb := prim_bd hk.hm (ix (ix B i) k))) | skip)
  try any_goals (skip)
  try any_goals (refine H_skip ?_)
  try any_goals (refine H_exit ?_)
  repeat (any_goals (first | refine G_exit_then ?_ | refine G_exit_here ?_ | refine G_exit_far rfl ?_))
  try any_goals (refine G_then ?_)
  try any_goals (refine H_seq ?_)
  try any_goals (refine H_block ?_)
  try any_goals (refine H_seq ?_)
  try any_goals (refine H_draw' (by kernel_rfl) upC_sep ?_)
  try any_goals (refine W_loadUP (d := 34) wk_stepper (fun w' h => UR.lift (Sep.ext h) hr4) (by kernel_rfl) rfl rfl rfl ?_)
  try any_goals (refine W_moveR (d := 35) wk_stepper (U := uS e1 (pS e2 pI) B) (fun w' h => UR.lift (Sep.ext h) hr2) rfl rfl rfl ?_)
  try any_goals (refine W_move (d := 36) wk_stepper rfl rfl rfl ?_)
  try any_goals (refine W_index (d := 37) wk_stepper (by kernel_rfl) rfl rfl rfl rfl (by first | omega | (dsimp only; omega)) ?_)
  try any_goals (refine W_loadS (d := 38) wk_stepper (by kernel_rfl) rfl rfl rfl ?_)
  try any_goals (refine W_move (d := 39) wk_stepper rfl rfl rfl ?_)
  try any_goals (refine W_index (d := 40) wk_stepper (by kernel_rfl) rfl rfl rfl rfl (by first | omega | (dsimp only; omega)) ?_)
  try any_goals (refine W_loadI (d := 41) wk_stepper (by kernel_rfl) rfl rfl rfl ?_)
  try any_goals (refine W_ct (d := 42) wk_stepper (ct_l5Find _ _) rfl rfl rfl (by kernel_rfl) ?_)
  try any_goals (refine Wk_assign (by kernel_rfl) (by kernel_rfl) ?_)
  try any_goals (refine W_assign (d := 12) (sq_stepper upC_sep) rfl rfl rfl ?_)
  try any_goals ((refine Sq_nil ?_; try refine G_then ?_))
  try any_goals (first | (refine H_seq ?_; try refine H_reg ?_) | refine H_reg ?_)
  try any_goals (refine W_fieldUP (d := 43) (sq_stepper upC_sep) (fun w' h => UR.lift (Sep.ext h) hr4) (Proj.tail _ _ (Proj.head _ _ _)) (by kernel_rfl) rfl rfl rfl ?_)
  try any_goals (refine W_loadS (d := 44) (sq_stepper upC_sep) (by kernel_rfl) rfl rfl rfl ?_)
  try any_goals (refine W_move (d := 45) (sq_stepper upC_sep) rfl rfl rfl ?_)
  try any_goals (refine W_index (d := 46) (sq_stepper upC_sep) (by kernel_rfl) rfl rfl rfl rfl (by first | omega | (dsimp only; omega)) ?_)
  try any_goals (refine W_fieldG (d := 47) (sq_stepper upC_sep) (Proj.tail _ _ (Proj.tail _ _ (Proj.head _ _ _))) (by kernel_rfl) rfl rfl rfl ?_)
  try any_goals (refine W_loadI (d := 48) (sq_stepper upC_sep) (by kernel_rfl) rfl rfl rfl ?_)
  try any_goals (refine W_assign (d := 13) (sq_stepper upC_sep) rfl rfl rfl ?_)
  try any_goals ((refine Sq_nil ?_; try refine G_then ?_))
  try any_goals (refine H_seq ?_)
  try any_goals ((refine H_seq ?_; try refine H_reg ?_))
  try any_goals (refine W_move (d := 49) (sq_stepper upC_sep) rfl rfl rfl ?_)
  try any_goals (refine W_cmp (d := 50) (sq_stepper upC_sep) rfl rfl rfl rfl rfl ?_)
  try any_goals ((refine Sq_nil ?_; try refine G_then ?_))
  try any_goals ((refine H_cond _ rfl (fun hq => ?_) (fun hq => ?_) <;> (try simp only [hqs, reduceCtorEq] at hq)))
  try any_goals (skip)
  try any_goals (skip)
  try any_goals (first | ((have hk0 : (0 : Int) < k := hq; have ha2 := hk.pr hi1 hq1 hk0; have ht2 : (0 ≤ (ix t.T (fndT t (ix (ix B i) ((k : Int) - 1)))).L ∧ (ix t.T (fndT t (ix (ix B i) ((k : Int) - 1)))).L < t.N.L.length) ∧ (0 ≤ (ix t.T (fndT t (ix (ix B i) ((k : Int) - 1)))).S ∧ (ix t.T (fndT t (ix (ix B i) ((k : Int) - 1)))).S ≤ 1799) ∧ (0 ≤ endAt t (fndT t (ix (ix B i) ((k : Int) - 1))) ∧ endAt t (fndT t (ix (ix B i) ((k : Int) - 1))) ≤ 1799) := tr_ok hv ha2; have hd2 := (dead_b hv hf ht2.1 ht1.1).2.2; have ho2 := hk.o hi1 hq1 hk0)) | skip)
  try any_goals (refine H_seq ?_)
  try any_goals (refine H_draw' (by kernel_rfl) upC_sep ?_)
  try any_goals (refine W_loadUP (d := 51) wk_stepper (fun w' h => UR.lift (Sep.ext h) hr4) (by kernel_rfl) rfl rfl rfl ?_)
  try any_goals (refine W_moveR (d := 52) wk_stepper (U := uS e1 (pS e2 pI) B) (fun w' h => UR.lift (Sep.ext h) hr2) rfl rfl rfl ?_)
  try any_goals (refine W_move (d := 53) wk_stepper rfl rfl rfl ?_)
  try any_goals (refine W_index (d := 54) wk_stepper (by kernel_rfl) rfl rfl rfl rfl (by first | omega | (dsimp only; omega)) ?_)
  try any_goals (refine W_loadS (d := 55) wk_stepper (by kernel_rfl) rfl rfl rfl ?_)
  try any_goals (refine W_move (d := 56) wk_stepper rfl rfl rfl ?_)
  try any_goals (refine W_ar (d := 57) wk_stepper rfl rfl rfl rfl rfl (by first | omega | (dsimp only; omega)) ?_)
  try any_goals (refine W_index (d := 58) wk_stepper (by kernel_rfl) rfl rfl rfl rfl (by first | omega | (dsimp only; omega)) ?_)
  try any_goals (refine W_loadI (d := 59) wk_stepper (by kernel_rfl) rfl rfl rfl ?_)
  try any_goals (refine W_ct (d := 60) wk_stepper (ct_l5Find _ _) rfl rfl rfl (by kernel_rfl) ?_)
  try any_goals (refine Wk_assign (by kernel_rfl) (by kernel_rfl) ?_)
  try any_goals (refine W_assign (d := 14) (sq_stepper upC_sep) rfl rfl rfl ?_)
  try any_goals ((refine Sq_nil ?_; try refine G_then ?_))
  try any_goals (refine H_draw' (by kernel_rfl) upC_sep ?_)
  try any_goals (refine W_move (d := 61) wk_stepper rfl rfl rfl ?_)
  try any_goals (refine W_loadUP (d := 62) wk_stepper (fun w' h => UR.lift (Sep.ext h) hr4) (by kernel_rfl) rfl rfl rfl ?_)
  try any_goals (refine W_move (d := 63) wk_stepper rfl rfl rfl ?_)
  try any_goals (refine W_ct (d := 64) wk_stepper (ct_l5End _ _ (hk.pr hi1 hq1 (by omega)) (tr_ok hv (hk.pr hi1 hq1 (by omega))).1 (tabB_lin hv (hk.pr hi1 hq1 (by omega)).1 (hk.pr hi1 hq1 (by omega)).2) (tr_ok hv (hk.pr hi1 hq1 (by omega))).2.1) rfl rfl rfl (by kernel_rfl) ?_)
  try any_goals (refine W_move (d := 65) wk_stepper rfl rfl rfl ?_)
  try any_goals (refine W_move (d := 66) wk_stepper rfl rfl rfl ?_)
  try any_goals (refine W_idxS (d := 67) 0 wk_stepper rfl (by kernel_rfl) rfl rfl rfl rfl (by first | omega | (simp; done) | (simp; omega)) ?_)
  try any_goals (refine W_loadS1 (d := 68) 0 wk_stepper (Θ := pI) (q := fun x => x) _ rfl proj_self mk_I rfl (by rw [hdl]; exact hk.pr hi1 hq1 (by omega)) (by kernel_rfl) rfl rfl rfl ?_)
  try any_goals (refine W_ar (d := 69) wk_stepper rfl rfl rfl rfl rfl (by first | omega | (dsimp only; omega)) ?_)
  try any_goals (refine W_fieldUP (d := 70) wk_stepper (fun w' h => UR.lift (Sep.ext h) hr5) (Proj.tail _ _ (Proj.head _ _ _)) (by kernel_rfl) rfl rfl rfl ?_)
  try any_goals (refine W_loadI (d := 71) wk_stepper (by kernel_rfl) rfl rfl rfl ?_)
  try any_goals (refine W_ar (d := 72) wk_stepper rfl rfl rfl rfl rfl (by first | omega | (dsimp only; omega)) ?_)
  try any_goals (refine W_loadUP (d := 73) wk_stepper (fun w' h => UR.lift (Sep.ext h) hr4) (by kernel_rfl) rfl rfl rfl ?_)
  try any_goals (refine W_loadUP (d := 74) wk_stepper (fun w' h => UR.lift (Sep.ext h) hr5) (by kernel_rfl) rfl rfl rfl ?_)
  try any_goals (refine W_move (d := 75) wk_stepper rfl rfl rfl ?_)
  try any_goals (refine W_move (d := 76) wk_stepper rfl rfl rfl ?_)
  try any_goals (refine W_ct (d := 77) wk_stepper (ct_l11Dead _ _ _ _ hv hf (hk.pr hi1 hq1 (by omega)) (hk.at hi1 hq1)) rfl rfl rfl (by kernel_rfl) ?_)
  try any_goals (refine W_ar (d := 78) wk_stepper rfl rfl rfl rfl rfl (by first | omega | (dsimp only; omega)) ?_)
  try any_goals (refine W_ct (d := 79) wk_stepper (ct_l1Most _ _) rfl rfl rfl (by kernel_rfl) ?_)
  try any_goals (refine Wk_assign (by kernel_rfl) (by kernel_rfl) ?_)
  try any_goals (refine W_assign (d := 13) (sq_stepper upC_sep) rfl rfl rfl ?_)
  try any_goals (refine Sq_nil ?_)
  try any_goals (refine H_skip ?_)
  try any_goals (refine G_then ?_)
  try any_goals (refine H_draw' (by kernel_rfl) upC_sep ?_)
  try any_goals (refine W_move (d := 80) wk_stepper rfl rfl rfl ?_)
  try any_goals (refine W_move (d := 81) wk_stepper rfl rfl rfl ?_)
  try any_goals (refine W_move (d := 82) wk_stepper rfl rfl rfl ?_)
  try any_goals (refine W_moveR (d := 83) wk_stepper (U := uS e3 pDly xs) (fun w' h => UR.lift (Sep.ext h) hr3) rfl rfl rfl ?_)
  try any_goals (refine W_moveR (d := 84) wk_stepper (U := uS e1 (pS e2 pI) B) (fun w' h => UR.lift (Sep.ext h) hr2) rfl rfl rfl ?_)
  try any_goals (refine W_move (d := 85) wk_stepper rfl rfl rfl ?_)
  try any_goals (refine W_index (d := 86) wk_stepper (by kernel_rfl) rfl rfl rfl rfl (by first | omega | (dsimp only; omega)) ?_)
  try any_goals (refine W_loadS (d := 87) wk_stepper (by kernel_rfl) rfl rfl rfl ?_)
  try any_goals (refine W_move (d := 88) wk_stepper rfl rfl rfl ?_)
  try any_goals (refine W_index (d := 89) wk_stepper (by kernel_rfl) rfl rfl rfl rfl (by first | omega | (dsimp only; omega)) ?_)
  try any_goals (refine W_loadI (d := 90) wk_stepper (by kernel_rfl) rfl rfl rfl ?_)
  try any_goals (refine W_ct (d := 91) wk_stepper (ct_l17Primary _ _) rfl rfl rfl (by kernel_rfl) ?_)
  try any_goals (refine W_ar (d := 92) wk_stepper rfl rfl rfl rfl rfl (by first | omega | (dsimp only; omega)) ?_)
  try any_goals (refine W_fieldUP (d := 93) wk_stepper (fun w' h => UR.lift (Sep.ext h) hr4) (Proj.tail _ _ (Proj.head _ _ _)) (by kernel_rfl) rfl rfl rfl ?_)
  try any_goals (refine W_loadS (d := 94) wk_stepper (by kernel_rfl) rfl rfl rfl ?_)
  try any_goals (refine W_move (d := 95) wk_stepper rfl rfl rfl ?_)
  try any_goals (refine W_index (d := 96) wk_stepper (by kernel_rfl) rfl rfl rfl rfl (by first | omega | (dsimp only; omega)) ?_)
  try any_goals (refine W_fieldG (d := 97) wk_stepper (Proj.tail _ _ (Proj.tail _ _ (Proj.head _ _ _))) (by kernel_rfl) rfl rfl rfl ?_)
  try any_goals (refine W_loadI (d := 98) wk_stepper (by kernel_rfl) rfl rfl rfl ?_)
  try any_goals (refine W_ar (d := 99) wk_stepper rfl rfl rfl rfl rfl (by first | omega | (dsimp only; omega)) ?_)
  try any_goals (refine W_idxS (d := 100) 0 wk_stepper rfl (by kernel_rfl) rfl rfl rfl rfl (by first | omega | (simp; done) | (simp; omega)) ?_)
  try any_goals (refine Wk_none (by kernel_rfl) (by kernel_rfl) ?_)
  try any_goals ((refine Sq_storeS 0 (n := 1) _ rfl ⟨trivial, trivial⟩ (by rw [hdl]; exact hk.at hi1 hq1) rfl (by kernel_rfl) (Nat.le_refl _) rfl rfl (hp_1 rfl rfl (fun _ => rfl)) ?_))
  try any_goals (refine Sq_nil ?_)
  repeat (any_goals (first | refine G_exit_then ?_ | refine G_exit_here ?_ | refine G_exit_far rfl ?_ | refine G_normal_block ?_))
  try any_goals (refine G_then ?_)
  try any_goals (refine H_reg ?_)
  try any_goals (refine W_move (d := 32) (sq_stepper upC_sep) rfl rfl rfl ?_)
  try any_goals (refine W_ar (d := 33) (sq_stepper upC_sep) rfl rfl rfl rfl rfl (by first | omega | (dsimp only; omega)) ?_)
  try any_goals (refine W_assign (d := 11) (sq_stepper upC_sep) rfl rfl rfl ?_)
  try any_goals (refine Sq_nil ?_)
  try any_goals (refine G_again (k + 1) (by omega) (by omega) (by repeat (first | exact trivial | refine ⟨⟨_, rfl, fun _ _ _ h => h⟩, ?_⟩ | refine ⟨⟨_, rfl, fun v w _ h => (show v = _ from h).trans (congrArg (Value.int .i64) (by first | omega | (dsimp only; omega)))⟩, ?_⟩)) (fun w' h => ?_))
  repeat (any_goals (first | refine G_exit_then ?_ | refine G_exit_here ?_ | refine G_exit_far rfl ?_ | refine G_normal_block ?_))
  repeat (any_goals (first | refine G_exit_then ?_ | refine G_exit_here ?_ | refine G_exit_far rfl ?_ | refine G_normal_block ?_))
  try any_goals (refine W_move (d := 23) (sq_stepper upC_sep) rfl rfl rfl ?_)
  try any_goals (refine W_ar (d := 24) (sq_stepper upC_sep) rfl rfl rfl rfl rfl (by first | omega | (dsimp only; omega)) ?_)
  try any_goals (refine W_assign (d := 10) (sq_stepper upC_sep) rfl rfl rfl ?_)
  try any_goals (refine Sq_nil ?_)
  try any_goals (refine G_again (i + 1) (by omega) (by omega) (by repeat (first | exact trivial | refine ⟨⟨_, rfl, fun _ _ _ h => h⟩, ?_⟩ | refine ⟨⟨_, rfl, fun v w _ h => (show v = _ from h).trans (congrArg (Value.int .i64) (by first | omega | (dsimp only; omega)))⟩, ?_⟩)) (fun w' h => ?_))
  repeat (any_goals (first | refine G_exit_then ?_ | refine G_exit_here ?_ | refine G_exit_far rfl ?_ | refine G_normal_block ?_))
  try any_goals (refine W_move (d := 101) (sq_stepper upC_sep) rfl rfl rfl ?_)
  try any_goals (refine W_assign (d := 8) (sq_stepper upC_sep) rfl rfl rfl ?_)
  try any_goals ((refine Sq_nil ?_; try refine G_then ?_))
  try any_goals (refine H_ret ?_)
  repeat (any_goals (first | refine G_ret_then ?_ | refine G_ret_block ?_))
  all_goals first
    | (rw [dIn, nwD, stD, if_pos hk0]; exact h)
    | (rw [dIn, nwD, stD, if_neg (by omega)]; exact h)
    | (have e : k = (ix B i).length := by omega
       subst e; exact h)
    | (have e : i = B.length := by omega
       subst e
       exact R1 rfl (fun _ h => hE.trans h.ext) rfl (fun v w' hc hv => by rw [show v = _ from hv]; exact hc.isO (m := 0) rfl (Nat.le_trans hs hE.size)))
    | trace_state
set_option maxHeartbeats 1000000 in
theorem cg_delaysOf {e1 e2 e3 : Option TypeId} (t : Tab) (f : Flt) (B : List (List Int)) (xs : List Dly) (hk : BkK t f B xs) : CTG Tryz.prog 94 [.inr (uA bTab t), .inr (uA bFlt f), .inr (uS e1 (pS e2 pI) B), .inr (uS e3 pDly xs)] (fun s => .inr (uO s oIntS (delR t f B xs))) := by
  refine CTG_of Tryz.func94 rfl rfl rfl (fun w s hs => ?_)
  have hC := upC_ext w
  have hv := hk.hv
  have hf := hk.hf
  have hn := (tabB_k hv).1
  have h12 := (tabB_k hv).2.1
  have hft := (fltB_t hf).2.1
  have hdl : ∀ i k, (dIn t f B xs i k (dOut t f B xs i)).length = t.T.length := fun i k => by rw [dIn_len, dOut_len]
  try any_goals ((refine H_seq ?_; try refine H_reg ?_))
  try any_goals (refine W_boxA (d := 4) (sq_stepper hC) rfl rfl rfl ?_)
  try any_goals (refine W_boxA (d := 5) (sq_stepper hC) rfl rfl rfl ?_)
  try any_goals (refine W_assign (d := 8) (sq_stepper hC) rfl rfl rfl ?_)
  try any_goals ((refine Sq_nil ?_; try refine G_then ?_))
  try any_goals (refine H_seq ?_)
  try any_goals (have hE : Ext _ _ := Ext.refl w)
  try any_goals (refine H_open 4 rfl (fun q u4 hw hr4 => ?_); have hE := hE.trans hw)
  try any_goals (refine H_open 5 rfl (fun q u5 hw hr5 => ?_); have hE := hE.trans hw; have hr4 := UR.lift hw hr4)
  try any_goals (refine H_open 2 rfl (fun q u2 hw hr2 => ?_); have hE := hE.trans hw; have hr4 := UR.lift hw hr4; have hr5 := UR.lift hw hr5)
  try any_goals (refine H_open 3 rfl (fun q u3 hw hr3 => ?_); have hE := hE.trans hw; have hr4 := UR.lift hw hr4; have hr5 := UR.lift hw hr5; have hr2 := UR.lift hw hr2)
  try any_goals (refine H_weakenC (C' := Sep q []) (fun w' h => sep_start h) ?_; have hC : UpC (Sep q []) := upC_sep)
  try any_goals (have hbl := isS_le hr2; have hbi := isS_le2 hr2; obtain ⟨us, hul, hus, hrow⟩ := isS_vals hr2)
  try any_goals (refine H_reg ?_)
  try any_goals (refine W_fieldUP (d := 18) (sq_stepper upC_sep) (fun w' h => UR.lift (Sep.ext h) hr4) (Proj.tail _ _ (Proj.head _ _ _)) (by kernel_rfl) rfl rfl rfl ?_)
  try any_goals (refine W_loadS (d := 19) (sq_stepper upC_sep) (by kernel_rfl) rfl rfl rfl ?_)
  try any_goals (refine W_len (d := 20) (sq_stepper upC_sep) (by kernel_rfl) rfl rfl rfl ?_)
  try any_goals ((refine Sq_makeS (d := 21) (e := 3) pI 0 [.int .i64 0] (by kernel_rfl) (by kernel_rfl) (by kernel_rfl) (fun _ => rfl) rfl rfl rfl ⟨by omega, by omega⟩ (fun v9 => ?_)))
  try any_goals (refine W_assign (d := 9) (sq_stepper upC_sep) rfl rfl rfl ?_)
  try any_goals ((refine Sq_nil ?_; try refine G_then ?_))
  try any_goals (refine H_seq ?_)
  try any_goals ((refine H_seq ?_; try refine H_reg ?_))
  try any_goals (refine W_move (d := 22) (sq_stepper upC_sep) rfl rfl rfl ?_)
  try any_goals (refine W_lenR (d := 23) (sq_stepper upC_sep) (xs := B) (fun w' h => UR.lift (Sep.ext h) hr2) (by kernel_rfl) rfl rfl rfl ?_)
  try any_goals (refine W_move (d := 24) (sq_stepper upC_sep) rfl rfl rfl ?_)
  try any_goals ((refine Sq_nil ?_; try refine G_then ?_))
  try any_goals (refine H_block ?_)
  try any_goals ((refine H_loop (σ := Nat) (fun i => i ≤ B.length) (fun i => [(3, .inl u3), (4, .inl u4), (5, .inl u5), (9, .inl v9), (22, .inl u2), (23, .inl (.int .i64 B.length)), (24, .inl (.int .i64 i))]) (fun i => Sep q [.sl Int 3 pI (dOut t f B xs i) v9]) (fun i => B.length - i) 0 (Nat.zero_le _) (fun a w' h => h.sub (by repeat (first | exact trivial | refine ⟨⟨_, rfl, fun _ _ _ h => h⟩, ?_⟩ | refine ⟨⟨_, rfl, fun v w _ h => (show v = _ from h).trans (congrArg (Value.int .i64) (by first | omega | (dsimp only; omega)))⟩, ?_⟩)) (fun w' h => by simpa [dOut] using h)) (fun i hi => ?_); have hC : UpC (Sep q [.sl Int 3 pI (dOut t f B xs i) v9]) := upC_sep))
  try any_goals ((refine H_seq ?_; try refine H_reg ?_))
  try any_goals (refine W_cmp (d := 25) (sq_stepper upC_sep) rfl rfl rfl rfl rfl ?_)
  try any_goals ((refine Sq_nil ?_; try refine G_then ?_))
  try any_goals (refine H_seq ?_)
  try any_goals ((refine H_cond _ rfl (fun hq => ?_) (fun hq => ?_) <;> (try simp only [hqs, reduceCtorEq] at hq)))
  try any_goals (first | ((have hi1 : (i : Int) < B.length := hq)) | skip)
  try any_goals (skip)
  try any_goals (skip)
  try any_goals (refine H_skip ?_)
  try any_goals (refine H_exit ?_)
  repeat (any_goals (first | refine G_exit_then ?_ | refine G_exit_here ?_ | refine G_exit_far rfl ?_))
  try any_goals (refine G_then ?_)
  try any_goals (refine H_seq ?_)
  try any_goals (refine H_block ?_)
  try any_goals (first | (refine H_seq ?_; try refine H_reg ?_) | refine H_reg ?_)
  try any_goals (refine W_indexR (d := 26) (sq_stepper upC_sep) (Φ := pV) (xs := us) (fun w' h => IsS.up (Sep.ext h) hus) (by kernel_rfl) rfl rfl rfl rfl (by omega) ?_)
  try any_goals (refine W_loadV (d := 27) (sq_stepper upC_sep) (by kernel_rfl) rfl rfl rfl ?_)
  try any_goals (refine W_assign (d := 11) (sq_stepper upC_sep) rfl rfl rfl ?_)
  try any_goals ((refine Sq_nil ?_; try refine G_then ?_))
  try any_goals ((refine H_seq ?_; try refine H_reg ?_))
  try any_goals (refine W_move (d := 28) (sq_stepper upC_sep) rfl rfl rfl ?_)
  try any_goals (refine W_lenR (d := 29) (sq_stepper upC_sep) (xs := ix B i) (fun w' h => IsS.up (Sep.ext h) (hrow i (by omega))) (by kernel_rfl) rfl rfl rfl ?_)
  try any_goals (refine W_move (d := 30) (sq_stepper upC_sep) rfl rfl rfl ?_)
  try any_goals ((refine Sq_nil ?_; try refine G_then ?_))
  try any_goals (refine H_block ?_)
  try any_goals ((refine H_loop (σ := Nat) (fun k => k ≤ (ix B i).length) (fun k => [(3, .inl u3), (4, .inl u4), (5, .inl u5), (9, .inl v9), (11, .inl (ix us i)), (22, .inl u2), (23, .inl (.int .i64 B.length)), (24, .inl (.int .i64 i)), (28, .inl (ix us i)), (29, .inl (.int .i64 (ix B i).length)), (30, .inl (.int .i64 k))]) (fun k => Sep q [.sl Int 3 pI (dIn t f B xs i k (dOut t f B xs i)) v9]) (fun k => (ix B i).length - k) 0 (Nat.zero_le _) (fun a w' h => h.sub (by repeat (first | exact trivial | refine ⟨⟨_, rfl, fun _ _ _ h => h⟩, ?_⟩ | refine ⟨⟨_, rfl, fun v w _ h => (show v = _ from h).trans (congrArg (Value.int .i64) (by first | omega | (dsimp only; omega)))⟩, ?_⟩)) (fun w' h => h)) (fun k hk1 => ?_); have hbk := hbi i (by omega) (by omega); have hdk := hdl i k; have hC : UpC (Sep q [.sl Int 3 pI (dIn t f B xs i k (dOut t f B xs i)) v9]) := upC_sep))
  try any_goals ((refine H_seq ?_; try refine H_reg ?_))
  try any_goals (refine W_cmp (d := 31) (sq_stepper upC_sep) rfl rfl rfl rfl rfl ?_)
  try any_goals ((refine Sq_nil ?_; try refine G_then ?_))
  try any_goals (refine H_seq ?_)
  try any_goals ((refine H_cond _ rfl (fun hq => ?_) (fun hq => ?_) <;> (try simp only [hqs, reduceCtorEq] at hq)))
  try any_goals (skip)
  try any_goals (first | ((have hq1 : (k : Int) < (ix B i).length := hq; have ha1 := hk.at hi1 hq1; have ht1 := tr_ok hv ha1; have hpb := prim_bd hk.hm (ix (ix B i) k))) | skip)
  try any_goals (skip)
  try any_goals (refine H_skip ?_)
  try any_goals (refine H_exit ?_)
  repeat (any_goals (first | refine G_exit_then ?_ | refine G_exit_here ?_ | refine G_exit_far rfl ?_))
  try any_goals (refine G_then ?_)
  try any_goals (refine H_seq ?_)
  try any_goals (refine H_block ?_)
  try any_goals (first | (refine H_seq ?_; try refine H_reg ?_) | refine H_reg ?_)
  try any_goals (refine W_move (d := 32) (sq_stepper upC_sep) rfl rfl rfl ?_)
  try any_goals (refine W_indexR (d := 33) (sq_stepper upC_sep) (xs := ix B i) (fun w' h => IsS.up (Sep.ext h) (hrow i (by omega))) (by kernel_rfl) rfl rfl rfl rfl (by omega) ?_)
  try any_goals (refine W_loadI (d := 34) (sq_stepper upC_sep) (by kernel_rfl) rfl rfl rfl ?_)
  try any_goals (refine W_assign (d := 12) (sq_stepper upC_sep) rfl rfl rfl ?_)
  try any_goals (refine W_assign (d := 13) (sq_stepper upC_sep) rfl rfl rfl ?_)
  try any_goals ((refine Sq_nil ?_; try refine G_then ?_))
  try any_goals ((refine H_seq ?_; try refine H_reg ?_))
  try any_goals (refine W_loadUP (d := 35) (sq_stepper upC_sep) (fun w' h => UR.lift (Sep.ext h) hr4) (by kernel_rfl) rfl rfl rfl ?_)
  try any_goals (refine W_move (d := 36) (sq_stepper upC_sep) rfl rfl rfl ?_)
  try any_goals (refine W_ct (d := 37) (sq_stepper upC_sep) (ct_tripIndex _ _) rfl rfl rfl (by kernel_rfl) ?_)
  try any_goals (refine W_assign (d := 14) (sq_stepper upC_sep) rfl rfl rfl ?_)
  try any_goals ((refine Sq_nil ?_; try refine G_then ?_))
  try any_goals ((refine H_seq ?_; try refine H_reg ?_))
  try any_goals (refine W_fieldUP (d := 38) (sq_stepper upC_sep) (fun w' h => UR.lift (Sep.ext h) hr4) (Proj.tail _ _ (Proj.head _ _ _)) (by kernel_rfl) rfl rfl rfl ?_)
  try any_goals (refine W_loadS (d := 39) (sq_stepper upC_sep) (by kernel_rfl) rfl rfl rfl ?_)
  try any_goals (refine W_move (d := 40) (sq_stepper upC_sep) rfl rfl rfl ?_)
  try any_goals (refine W_index (d := 41) (sq_stepper upC_sep) (by kernel_rfl) rfl rfl rfl rfl (by first | omega | (dsimp only; omega)) ?_)
  try any_goals (refine W_loadA (d := 42) (sq_stepper upC_sep) (by kernel_rfl) rfl rfl rfl ?_)
  try any_goals (refine Sq_alloc (d := 15) (by kernel_rfl) hC rfl ?_)
  try any_goals (refine Pend_storeA (by kernel_rfl) hC rfl rfl ?_)
  try any_goals ((refine Sq_nil ?_; try refine G_then ?_))
  try any_goals ((refine H_seq ?_; try refine H_reg ?_))
  try any_goals (refine W_fieldG (d := 43) (sq_stepper upC_sep) (Proj.tail _ _ (Proj.tail _ _ (Proj.head _ _ _))) (by kernel_rfl) rfl rfl rfl ?_)
  try any_goals (refine W_loadI (d := 44) (sq_stepper upC_sep) (by kernel_rfl) rfl rfl rfl ?_)
  try any_goals (refine W_assign (d := 16) (sq_stepper upC_sep) rfl rfl rfl ?_)
  try any_goals ((refine Sq_nil ?_; try refine G_then ?_))
  try any_goals (refine H_seq ?_)
  try any_goals ((refine H_seq ?_; try refine H_reg ?_))
  try any_goals (refine W_move (d := 45) (sq_stepper upC_sep) rfl rfl rfl ?_)
  try any_goals (refine W_cmp (d := 46) (sq_stepper upC_sep) rfl rfl rfl rfl rfl ?_)
  try any_goals ((refine Sq_nil ?_; try refine G_then ?_))
  try any_goals ((refine H_cond _ rfl (fun hq => ?_) (fun hq => ?_) <;> (try simp only [hqs, reduceCtorEq] at hq)))
  try any_goals (skip)
  try any_goals (skip)
  try any_goals (first | ((have hk0 : (0 : Int) < k := hq; have ha2 := hk.pr hi1 hq1 hk0; have ht2 : (0 ≤ (ix t.T (fndT t (ix (ix B i) ((k : Int) - 1)))).L ∧ (ix t.T (fndT t (ix (ix B i) ((k : Int) - 1)))).L < t.N.L.length) ∧ (0 ≤ (ix t.T (fndT t (ix (ix B i) ((k : Int) - 1)))).S ∧ (ix t.T (fndT t (ix (ix B i) ((k : Int) - 1)))).S ≤ 1799) ∧ (0 ≤ (ix t.T (fndT t (ix (ix B i) ((k : Int) - 1)))).S + preI (ix t.N.L (ix t.T (fndT t (ix (ix B i) ((k : Int) - 1)))).L).R (ix t.N.L (ix t.T (fndT t (ix (ix B i) ((k : Int) - 1)))).L).R.length ∧ (ix t.T (fndT t (ix (ix B i) ((k : Int) - 1)))).S + preI (ix t.N.L (ix t.T (fndT t (ix (ix B i) ((k : Int) - 1)))).L).R (ix t.N.L (ix t.T (fndT t (ix (ix B i) ((k : Int) - 1)))).L).R.length ≤ 1799) := tr_ok hv ha2; have hd2 := (dead_b hv hf ht2.1 ht1.1).2.2; have ho2 := hk.o hi1 hq1 hk0)) | skip)
  try any_goals (refine H_seq ?_)
  try any_goals (refine H_draw' (by kernel_rfl) upC_sep ?_)
  try any_goals (refine W_loadUP (d := 47) wk_stepper (fun w' h => UR.lift (Sep.ext h) hr4) (by kernel_rfl) rfl rfl rfl ?_)
  try any_goals (refine W_move (d := 48) wk_stepper rfl rfl rfl ?_)
  try any_goals (refine W_move (d := 49) wk_stepper rfl rfl rfl ?_)
  try any_goals (refine W_ar (d := 50) wk_stepper rfl rfl rfl rfl rfl (by first | omega | (dsimp only; omega)) ?_)
  try any_goals (refine W_indexR (d := 51) wk_stepper (xs := ix B i) (fun w' h => IsS.up (Sep.ext h) (hrow i (by omega))) (by kernel_rfl) rfl rfl rfl rfl (by omega) ?_)
  try any_goals (refine W_loadI (d := 52) wk_stepper (by kernel_rfl) rfl rfl rfl ?_)
  try any_goals (refine W_ct (d := 53) wk_stepper (ct_tripIndex _ _) rfl rfl rfl (by kernel_rfl) ?_)
  try any_goals (refine Wk_assign (by kernel_rfl) (by kernel_rfl) ?_)
  try any_goals (refine W_assign (d := 17) (sq_stepper upC_sep) rfl rfl rfl ?_)
  try any_goals ((refine Sq_nil ?_; try refine G_then ?_))
  try any_goals (refine H_draw' (by kernel_rfl) upC_sep ?_)
  try any_goals (refine W_move (d := 54) wk_stepper rfl rfl rfl ?_)
  try any_goals (refine W_loadUP (d := 55) wk_stepper (fun w' h => UR.lift (Sep.ext h) hr4) (by kernel_rfl) rfl rfl rfl ?_)
  try any_goals (refine W_fieldUP (d := 56) wk_stepper (fun w' h => UR.lift (Sep.ext h) hr4) (Proj.tail _ _ (Proj.head _ _ _)) (by kernel_rfl) rfl rfl rfl ?_)
  try any_goals (refine W_loadS (d := 57) wk_stepper (by kernel_rfl) rfl rfl rfl ?_)
  try any_goals (refine W_move (d := 58) wk_stepper rfl rfl rfl ?_)
  try any_goals (refine W_index (d := 59) wk_stepper (by kernel_rfl) rfl rfl rfl rfl (by first | omega | (dsimp only; omega)) ?_)
  try any_goals (refine W_loadA (d := 60) wk_stepper (by kernel_rfl) rfl rfl rfl ?_)
  try any_goals (refine W_ct (d := 61) wk_stepper (ct_endOf _ (ix t.T (fndT t (ix (ix B i) ((k : Int) - 1)))) ht2.1 (netB_lin hn ht2.1.1 ht2.1.2) ht2.2.1) rfl rfl rfl (by kernel_rfl) ?_)
  try any_goals (refine W_move (d := 62) wk_stepper rfl rfl rfl ?_)
  try any_goals (refine W_move (d := 63) wk_stepper rfl rfl rfl ?_)
  try any_goals (refine W_idxS (d := 64) 0 wk_stepper rfl (by kernel_rfl) rfl rfl rfl rfl (by first | omega | (simp; done) | (simp; omega)) ?_)
  try any_goals (refine W_loadS1 (d := 65) 0 wk_stepper (Θ := pI) (q := fun x => x) _ rfl proj_self mk_I rfl (by rw [hdl]; exact ha2) (by kernel_rfl) rfl rfl rfl ?_)
  try any_goals (refine W_ar (d := 66) wk_stepper rfl rfl rfl rfl rfl (by first | omega | (dsimp only; omega)) ?_)
  try any_goals (refine W_fieldUP (d := 67) wk_stepper (fun w' h => UR.lift (Sep.ext h) hr5) (Proj.tail _ _ (Proj.head _ _ _)) (by kernel_rfl) rfl rfl rfl ?_)
  try any_goals (refine W_loadI (d := 68) wk_stepper (by kernel_rfl) rfl rfl rfl ?_)
  try any_goals (refine W_ar (d := 69) wk_stepper rfl rfl rfl rfl rfl (by first | omega | (dsimp only; omega)) ?_)
  try any_goals (refine W_loadUP (d := 70) wk_stepper (fun w' h => UR.lift (Sep.ext h) hr4) (by kernel_rfl) rfl rfl rfl ?_)
  try any_goals (refine W_loadUP (d := 71) wk_stepper (fun w' h => UR.lift (Sep.ext h) hr5) (by kernel_rfl) rfl rfl rfl ?_)
  try any_goals (refine W_fieldUP (d := 72) wk_stepper (fun w' h => UR.lift (Sep.ext h) hr4) (Proj.tail _ _ (Proj.head _ _ _)) (by kernel_rfl) rfl rfl rfl ?_)
  try any_goals (refine W_loadS (d := 73) wk_stepper (by kernel_rfl) rfl rfl rfl ?_)
  try any_goals (refine W_move (d := 74) wk_stepper rfl rfl rfl ?_)
  try any_goals (refine W_index (d := 75) wk_stepper (by kernel_rfl) rfl rfl rfl rfl (by first | omega | (dsimp only; omega)) ?_)
  try any_goals (refine W_loadA (d := 76) wk_stepper (by kernel_rfl) rfl rfl rfl ?_)
  try any_goals (refine W_loadA (d := 77) wk_stepper (by kernel_rfl) rfl rfl rfl ?_)
  try any_goals (refine W_ct (d := 78) wk_stepper (ct_dead _ _ (ix t.T (fndT t (ix (ix B i) ((k : Int) - 1)))) (ix t.T (fndT t (ix (ix B i) k))) hv hf ht2.1 ht1.1) rfl rfl rfl (by kernel_rfl) ?_)
  try any_goals (refine W_ar (d := 79) wk_stepper rfl rfl rfl rfl rfl (by first | omega | (dsimp only; omega)) ?_)
  try any_goals (refine W_max (d := 80) wk_stepper rfl rfl rfl rfl ?_)
  try any_goals (refine Wk_assign (by kernel_rfl) (by kernel_rfl) ?_)
  try any_goals (refine W_assign (d := 16) (sq_stepper upC_sep) rfl rfl rfl ?_)
  try any_goals (refine Sq_nil ?_)
  try any_goals (refine H_skip ?_)
  try any_goals (refine G_then ?_)
  try any_goals (refine H_draw' (by kernel_rfl) upC_sep ?_)
  try any_goals (refine W_move (d := 81) wk_stepper rfl rfl rfl ?_)
  try any_goals (refine W_move (d := 82) wk_stepper rfl rfl rfl ?_)
  try any_goals (refine W_move (d := 83) wk_stepper rfl rfl rfl ?_)
  try any_goals (refine W_moveR (d := 84) wk_stepper (U := uS e3 pDly xs) (fun w' h => UR.lift (Sep.ext h) hr3) rfl rfl rfl ?_)
  try any_goals (refine W_move (d := 85) wk_stepper rfl rfl rfl ?_)
  try any_goals (refine W_ct (d := 86) wk_stepper (ct_primaryOf _ _) rfl rfl rfl (by kernel_rfl) ?_)
  try any_goals (refine W_ar (d := 87) wk_stepper rfl rfl rfl rfl rfl (by first | omega | (dsimp only; omega)) ?_)
  try any_goals (refine W_fieldG (d := 88) wk_stepper (Proj.tail _ _ (Proj.tail _ _ (Proj.head _ _ _))) (by kernel_rfl) rfl rfl rfl ?_)
  try any_goals (refine W_loadI (d := 89) wk_stepper (by kernel_rfl) rfl rfl rfl ?_)
  try any_goals (refine W_ar (d := 90) wk_stepper rfl rfl rfl rfl rfl (by first | omega | (dsimp only; omega)) ?_)
  try any_goals (refine W_idxS (d := 91) 0 wk_stepper rfl (by kernel_rfl) rfl rfl rfl rfl (by first | omega | (simp; done) | (simp; omega)) ?_)
  try any_goals (refine Wk_none (by kernel_rfl) (by kernel_rfl) ?_)
  try any_goals ((refine Sq_storeS 0 (n := 1) _ rfl ⟨trivial, trivial⟩ (by rw [hdl]; exact ha1) rfl (by kernel_rfl) (Nat.le_refl _) rfl rfl (hp_1 rfl rfl (fun _ => rfl)) ?_))
  try any_goals (refine Sq_nil ?_)
  repeat (any_goals (first | refine G_exit_then ?_ | refine G_exit_here ?_ | refine G_exit_far rfl ?_ | refine G_normal_block ?_))
  try any_goals (refine G_then ?_)
  try any_goals (refine H_reg ?_)
  try any_goals (refine W_ar (d := 92) (sq_stepper upC_sep) rfl rfl rfl rfl rfl (by first | omega | (dsimp only; omega)) ?_)
  try any_goals (refine W_move (d := 30) (sq_stepper upC_sep) rfl rfl rfl ?_)
  try any_goals (refine Sq_nil ?_)
  try any_goals (refine G_again (k + 1) (by omega) (by omega) (by repeat (first | exact trivial | refine ⟨⟨_, rfl, fun _ _ _ h => h⟩, ?_⟩ | refine ⟨⟨_, rfl, fun v w _ h => (show v = _ from h).trans (congrArg (Value.int .i64) (by first | omega | (dsimp only; omega)))⟩, ?_⟩)) (fun w' h => ?_))
  repeat (any_goals (first | refine G_exit_then ?_ | refine G_exit_here ?_ | refine G_exit_far rfl ?_ | refine G_normal_block ?_))
  repeat (any_goals (first | refine G_exit_then ?_ | refine G_exit_here ?_ | refine G_exit_far rfl ?_ | refine G_normal_block ?_))
  try any_goals (refine W_ar (d := 93) (sq_stepper upC_sep) rfl rfl rfl rfl rfl (by first | omega | (dsimp only; omega)) ?_)
  try any_goals (refine W_move (d := 24) (sq_stepper upC_sep) rfl rfl rfl ?_)
  try any_goals (refine Sq_nil ?_)
  try any_goals (refine G_again (i + 1) (by omega) (by omega) (by repeat (first | exact trivial | refine ⟨⟨_, rfl, fun _ _ _ h => h⟩, ?_⟩ | refine ⟨⟨_, rfl, fun v w _ h => (show v = _ from h).trans (congrArg (Value.int .i64) (by first | omega | (dsimp only; omega)))⟩, ?_⟩)) (fun w' h => ?_))
  repeat (any_goals (first | refine G_exit_then ?_ | refine G_exit_here ?_ | refine G_exit_far rfl ?_ | refine G_normal_block ?_))
  try any_goals (refine W_move (d := 94) (sq_stepper upC_sep) rfl rfl rfl ?_)
  try any_goals (refine W_assign (d := 8) (sq_stepper upC_sep) rfl rfl rfl ?_)
  try any_goals ((refine Sq_nil ?_; try refine G_then ?_))
  try any_goals (refine H_ret ?_)
  repeat (any_goals (first | refine G_ret_then ?_ | refine G_ret_block ?_))
  all_goals first
    | (rw [dIn, nwD, stD, if_pos hk0]; exact h)
    | (rw [dIn, nwD, stD, if_neg (by omega)]; exact h)
    | (have e : k = (ix B i).length := by omega
       subst e; exact h)
    | (have e : i = B.length := by omega
       subst e
       exact R1 rfl (fun _ h => hE.trans h.ext) rfl (fun v w' hc hv => by rw [show v = _ from hv]; exact hc.isO (m := 0) rfl (Nat.le_trans hs hE.size)))
    | trace_state
def latB (t : Tab) (f : Flt) (B : List (List Int)) (xs : List Dly) : Bool := (runOk t f && blkB t f B) && delsB t xs
theorem latB_k {t : Tab} {f : Flt} {B : List (List Int)} {xs : List Dly} (h : latB t f B xs = true) : BkK t f B xs := by
  simp only [latB, Bool.and_eq_true] at h
  have h1 := blkB_n h.1.2
  have h2 := (tabB_k (runOk_t h.1.1).1).2.1
  exact ⟨(runOk_t h.1.1).1, (runOk_t h.1.1).2, fun i k hi hk => (idOk_k ((blkB_k h.1.2 hi).2 k hk)).1, by omega, delsB_min h.2⟩
theorem latB_v {t : Tab} {f : Flt} {B : List (List Int)} (h : (runOk t f && blkB t f B) = true) : tabB t = true := by
  simp only [Bool.and_eq_true] at h
  exact (runOk_t h.1).1
theorem ct_l17Asked {e1 e2 e3 : Option TypeId} (t : Tab) (f : Flt) (B : List (List Int)) (xs : List Dly) : CT Tryz.prog 28 [.inr (uA bTab t), .inr (uA bFlt f), .inr (uS e1 (pS e2 pI) B), .inr (uS e3 pDly xs)] (.inl (.bool (latB t f B xs))) := by
  refine CT_of Tryz.func28 rfl rfl rfl (fun w => ?_)
  have hC := upC_ext w
  cases h : (runOk t f && blkB t f B)
  · skip
    try any_goals ((refine H_seq ?_; try refine H_reg ?_))
    try any_goals (refine W_boxA (d := 4) (sq_stepper hC) rfl rfl rfl ?_)
    try any_goals (refine W_boxA (d := 5) (sq_stepper hC) rfl rfl rfl ?_)
    try any_goals (refine W_assign (d := 8) (sq_stepper hC) rfl rfl rfl ?_)
    try any_goals ((refine Sq_nil ?_; try refine G_then ?_))
    try any_goals ((refine H_seq ?_; try refine H_reg ?_))
    try any_goals (refine W_loadA (d := 9) (sq_stepper hC) (by kernel_rfl) rfl rfl rfl ?_)
    try any_goals (refine W_loadA (d := 10) (sq_stepper hC) (by kernel_rfl) rfl rfl rfl ?_)
    try any_goals (refine W_move (d := 11) (sq_stepper hC) rfl rfl rfl ?_)
    try any_goals (refine W_ct (d := 12) (sq_stepper hC) (h ▸ ct_l12Blocks _ _ _) rfl rfl rfl (by kernel_rfl) ?_)
    try any_goals (refine W_move (d := 13) (sq_stepper hC) rfl rfl rfl ?_)
    try any_goals ((refine W_splitG (sq_stepper hC) _ rfl _ rfl (fun hq => ?_) (fun hq => ?_) <;> ((try simp only [hqs, reduceCtorEq] at hq); try (have hq' := hq; clear hq))))
    try any_goals (refine W_skip (d := 14) (sq_stepper hC) rfl rfl ?_)
    try any_goals (refine W_skip (d := 15) (sq_stepper hC) rfl rfl ?_)
    try any_goals (refine W_skip (d := 16) (sq_stepper hC) rfl rfl ?_)
    try any_goals (refine W_pickF (d := 17) (sq_stepper hC) rfl rfl rfl rfl ?_)
    try any_goals (refine W_assign (d := 8) (sq_stepper hC) rfl rfl rfl ?_)
    try any_goals ((refine Sq_nil ?_; try refine G_then ?_))
    try any_goals (refine H_ret ?_)
    repeat (any_goals (first | refine G_ret_then ?_ | refine G_ret_block ?_))
    all_goals exact R1v rfl (fun _ h => h) rfl (by rw [latB, h]; rfl)
  · skip
    try any_goals ((refine H_seq ?_; try refine H_reg ?_))
    try any_goals (refine W_boxA (d := 4) (sq_stepper hC) rfl rfl rfl ?_)
    try any_goals (refine W_boxA (d := 5) (sq_stepper hC) rfl rfl rfl ?_)
    try any_goals (refine W_assign (d := 8) (sq_stepper hC) rfl rfl rfl ?_)
    try any_goals ((refine Sq_nil ?_; try refine G_then ?_))
    try any_goals ((refine H_seq ?_; try refine H_reg ?_))
    try any_goals (refine W_loadA (d := 9) (sq_stepper hC) (by kernel_rfl) rfl rfl rfl ?_)
    try any_goals (refine W_loadA (d := 10) (sq_stepper hC) (by kernel_rfl) rfl rfl rfl ?_)
    try any_goals (refine W_move (d := 11) (sq_stepper hC) rfl rfl rfl ?_)
    try any_goals (refine W_ct (d := 12) (sq_stepper hC) (h ▸ ct_l12Blocks _ _ _) rfl rfl rfl (by kernel_rfl) ?_)
    try any_goals (refine W_move (d := 13) (sq_stepper hC) rfl rfl rfl ?_)
    try any_goals ((refine W_splitG (sq_stepper hC) _ rfl _ rfl (fun hq => ?_) (fun hq => ?_) <;> ((try simp only [hqs, reduceCtorEq] at hq); try (have hq' := hq; clear hq))))
    try any_goals (refine W_loadA (d := 14) (sq_stepper hC) (by kernel_rfl) rfl rfl rfl ?_)
    try any_goals (refine W_move (d := 15) (sq_stepper hC) rfl rfl rfl ?_)
    try any_goals (refine W_ct (d := 16) (sq_stepper hC) (ct_l17List _ _ (latB_v h)) rfl rfl rfl (by kernel_rfl) ?_)
    try any_goals (refine W_pickT (d := 17) (sq_stepper hC) rfl rfl rfl rfl ?_)
    try any_goals (refine W_assign (d := 8) (sq_stepper hC) rfl rfl rfl ?_)
    try any_goals ((refine Sq_nil ?_; try refine G_then ?_))
    try any_goals (refine H_ret ?_)
    repeat (any_goals (first | refine G_ret_then ?_ | refine G_ret_block ?_))
    all_goals exact R1v rfl (fun _ h => h) rfl (by rw [latB, h]; rfl)
theorem ct_areLate {e1 e2 e3 : Option TypeId} (t : Tab) (f : Flt) (B : List (List Int)) (xs : List Dly) : CT Tryz.prog 36 [.inr (uA bTab t), .inr (uA bFlt f), .inr (uS e1 (pS e2 pI) B), .inr (uS e3 pDly xs)] (.inl (.bool (latB t f B xs))) := by
  refine CT_of Tryz.func36 rfl rfl rfl (fun w => ?_)
  have hC := upC_ext w
  cases h : (runOk t f && blkB t f B)
  · skip
    try any_goals ((refine H_seq ?_; try refine H_reg ?_))
    try any_goals (refine W_boxA (d := 4) (sq_stepper hC) rfl rfl rfl ?_)
    try any_goals (refine W_boxA (d := 5) (sq_stepper hC) rfl rfl rfl ?_)
    try any_goals (refine W_assign (d := 8) (sq_stepper hC) rfl rfl rfl ?_)
    try any_goals ((refine Sq_nil ?_; try refine G_then ?_))
    try any_goals ((refine H_seq ?_; try refine H_reg ?_))
    try any_goals (refine W_loadA (d := 9) (sq_stepper hC) (by kernel_rfl) rfl rfl rfl ?_)
    try any_goals (refine W_loadA (d := 10) (sq_stepper hC) (by kernel_rfl) rfl rfl rfl ?_)
    try any_goals (refine W_move (d := 11) (sq_stepper hC) rfl rfl rfl ?_)
    try any_goals (refine W_ct (d := 12) (sq_stepper hC) (h ▸ ct_iBlocks _ _ _) rfl rfl rfl (by kernel_rfl) ?_)
    try any_goals (refine W_move (d := 13) (sq_stepper hC) rfl rfl rfl ?_)
    try any_goals ((refine W_splitG (sq_stepper hC) _ rfl _ rfl (fun hq => ?_) (fun hq => ?_) <;> ((try simp only [hqs, reduceCtorEq] at hq); try (have hq' := hq; clear hq))))
    try any_goals (refine W_skip (d := 14) (sq_stepper hC) rfl rfl ?_)
    try any_goals (refine W_skip (d := 15) (sq_stepper hC) rfl rfl ?_)
    try any_goals (refine W_skip (d := 16) (sq_stepper hC) rfl rfl ?_)
    try any_goals (refine W_pickF (d := 17) (sq_stepper hC) rfl rfl rfl rfl ?_)
    try any_goals (refine W_assign (d := 8) (sq_stepper hC) rfl rfl rfl ?_)
    try any_goals ((refine Sq_nil ?_; try refine G_then ?_))
    try any_goals (refine H_ret ?_)
    repeat (any_goals (first | refine G_ret_then ?_ | refine G_ret_block ?_))
    all_goals exact R1v rfl (fun _ h => h) rfl (by rw [latB, h]; rfl)
  · skip
    try any_goals ((refine H_seq ?_; try refine H_reg ?_))
    try any_goals (refine W_boxA (d := 4) (sq_stepper hC) rfl rfl rfl ?_)
    try any_goals (refine W_boxA (d := 5) (sq_stepper hC) rfl rfl rfl ?_)
    try any_goals (refine W_assign (d := 8) (sq_stepper hC) rfl rfl rfl ?_)
    try any_goals ((refine Sq_nil ?_; try refine G_then ?_))
    try any_goals ((refine H_seq ?_; try refine H_reg ?_))
    try any_goals (refine W_loadA (d := 9) (sq_stepper hC) (by kernel_rfl) rfl rfl rfl ?_)
    try any_goals (refine W_loadA (d := 10) (sq_stepper hC) (by kernel_rfl) rfl rfl rfl ?_)
    try any_goals (refine W_move (d := 11) (sq_stepper hC) rfl rfl rfl ?_)
    try any_goals (refine W_ct (d := 12) (sq_stepper hC) (h ▸ ct_iBlocks _ _ _) rfl rfl rfl (by kernel_rfl) ?_)
    try any_goals (refine W_move (d := 13) (sq_stepper hC) rfl rfl rfl ?_)
    try any_goals ((refine W_splitG (sq_stepper hC) _ rfl _ rfl (fun hq => ?_) (fun hq => ?_) <;> ((try simp only [hqs, reduceCtorEq] at hq); try (have hq' := hq; clear hq))))
    try any_goals (refine W_loadA (d := 14) (sq_stepper hC) (by kernel_rfl) rfl rfl rfl ?_)
    try any_goals (refine W_move (d := 15) (sq_stepper hC) rfl rfl rfl ?_)
    try any_goals (refine W_ct (d := 16) (sq_stepper hC) (ct_areDelays _ _ (latB_v h)) rfl rfl rfl (by kernel_rfl) ?_)
    try any_goals (refine W_pickT (d := 17) (sq_stepper hC) rfl rfl rfl rfl ?_)
    try any_goals (refine W_assign (d := 8) (sq_stepper hC) rfl rfl rfl ?_)
    try any_goals ((refine Sq_nil ?_; try refine G_then ?_))
    try any_goals (refine H_ret ?_)
    repeat (any_goals (first | refine G_ret_then ?_ | refine G_ret_block ?_))
    all_goals exact R1v rfl (fun _ h => h) rfl (by rw [latB, h]; rfl)
theorem ct_l17Delays {e1 e2 e3 : Option TypeId} (t : Tab) (f : Flt) (B : List (List Int)) (xs : List Dly) (hk : BkK t f B xs) : CT Tryz.prog 55 [.inr (uA bTab t), .inr (uA bFlt f), .inr (uS e1 (pS e2 pI) B), .inr (uS e3 pDly xs)] (.inr (uS (some 3) pI (delR t f B xs))) := (cg_l17Delays t f B xs hk).ct fun s v w ⟨S, _, h⟩ => OS.isS h
end Go.Proofs.YtanlaggnhocjhaaGreat

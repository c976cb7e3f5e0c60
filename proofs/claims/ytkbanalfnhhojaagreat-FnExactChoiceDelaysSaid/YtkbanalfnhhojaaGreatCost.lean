/- Choices of cancelled trips: their delays, costs, savings, the delay of passengers; both ways. -/
import Derived.Test.YtkbanalfnhhojaaGreatChdW
namespace Go.Proofs.YtkbanalfnhhojaaGreat
set_option linter.unusedSimpArgs false
set_option linter.unusedVariables false
open Go.RowKit Go.ChangeShapes Go.WideShapes Go.ChangeAt Go.Deep
theorem inB_yes {x a b : Int} (h : a ≤ x ∧ x ≤ b) : inB x a b = true := by rw [inB_t]; exact h
theorem inB_no {x a b : Int} (h : x < a ∨ b < x) : inB x a b = false := by rw [inB_f]; exact h
def cdOk (t : Tab) (f : Flt) (B : List (List Int)) (xs : List Dly) (c : List Int) : Bool := latB t f B xs && (canB t c && posB t f B c)
theorem latB_bl {t : Tab} {f : Flt} {B : List (List Int)} {xs : List Dly} (h : latB t f B xs = true) : BlV t f B := by
  rw [latB, Bool.and_eq_true] at h
  exact BlV.of h.1
theorem latB_mn {t : Tab} {f : Flt} {B : List (List Int)} {xs : List Dly} (h : latB t f B xs = true) : MinOk xs := (latB_k h).hm
theorem cdOk_t {t : Tab} {f : Flt} {B : List (List Int)} {xs : List Dly} {c : List Int} (h : cdOk t f B xs c = true) : BlV t f B ∧ MinOk xs ∧ canB t c = true := by
  simp only [cdOk, Bool.and_eq_true] at h
  exact ⟨latB_bl h.1, latB_mn h.1, h.2.1⟩
theorem cdL_db {t : Tab} {f : Flt} {B : List (List Int)} {xs : List Dly} {c : List Int} (h : BlV t f B) (hm : MinOk xs) : DB t (delR t f (keptA B c) xs) 12 := (BkK.kept h hm c).all
theorem coK_y {t : Tab} {r : List Int} {p : Int} {i : Nat} (h : ix r i < 0) : coK t r p i = p * ((trLin t i).S.length : Int) := by rw [coK, if_pos h]
theorem coK_n {t : Tab} {r : List Int} {p : Int} {i : Nat} (h : 0 ≤ ix r i) : coK t r p i = ix r i * ((trLin t i).S.length : Int) := by rw [coK, if_neg (by omega)]
theorem paK_y {r q : List Int} {w : Int} {i : Nat} (h : ix r i < 0) : paK r q w i = ix q i * w := by rw [paK, if_pos h]
theorem paK_n {r q : List Int} {w : Int} {i : Nat} (h : 0 ≤ ix r i) : paK r q w i = ix q i * ix r i := by rw [paK, if_neg (by omega)]
theorem ct_l19Asked {e1 e2 e3 e4 : Option TypeId} (t : Tab) (f : Flt) (B : List (List Int)) (xs : List Dly) (c : List Int) : CT Tryz.prog 55 [.inr (uA bTab t), .inr (uA bFlt f), .inr (uS e1 (pS e2 pI) B), .inr (uS e3 pDly xs), .inr (uS e4 pI c)] (.inl (.bool (cdOk t f B xs c))) := by
  refine CT_of Tryz.func55 rfl rfl rfl (fun w => ?_)
  have hC := upC_ext w
  have hA := ct_l17Asked (e1 := e1) (e2 := e2) (e3 := e3) t f B xs
  cases h : latB t f B xs
  · rw [h] at hA
    try any_goals ((refine H_seq ?_; try refine H_reg ?_))
    try any_goals (refine W_boxA (d := 5) (sq_stepper hC) rfl rfl rfl ?_)
    try any_goals (refine W_boxA (d := 6) (sq_stepper hC) rfl rfl rfl ?_)
    try any_goals (refine W_assign (d := 10) (sq_stepper hC) rfl rfl rfl ?_)
    try any_goals ((refine Sq_nil ?_; try refine G_then ?_))
    try any_goals ((refine H_seq ?_; try refine H_reg ?_))
    try any_goals (refine W_loadA (d := 11) (sq_stepper hC) (by kernel_rfl) rfl rfl rfl ?_)
    try any_goals (refine W_loadA (d := 12) (sq_stepper hC) (by kernel_rfl) rfl rfl rfl ?_)
    try any_goals (refine W_move (d := 13) (sq_stepper hC) rfl rfl rfl ?_)
    try any_goals (refine W_move (d := 14) (sq_stepper hC) rfl rfl rfl ?_)
    try any_goals (refine W_ct (d := 15) (sq_stepper hC) (hA) rfl rfl rfl (by kernel_rfl) ?_)
    try any_goals (refine W_move (d := 16) (sq_stepper hC) rfl rfl rfl ?_)
    try any_goals ((refine W_splitG (sq_stepper hC) _ rfl _ rfl (fun hq => ?_) (fun hq => ?_) <;> ((try simp only [hqs, reduceCtorEq] at hq); try (have hq' := hq; clear hq))))
    try any_goals (refine W_skip (d := 17) (sq_stepper hC) rfl rfl ?_)
    try any_goals (refine W_skip (d := 18) (sq_stepper hC) rfl rfl ?_)
    try any_goals (refine W_skip (d := 19) (sq_stepper hC) rfl rfl ?_)
    try any_goals (refine W_skip (d := 20) (sq_stepper hC) rfl rfl ?_)
    try any_goals (refine W_skip (d := 21) (sq_stepper hC) rfl rfl ?_)
    try any_goals (refine W_pickF (d := 22) (sq_stepper hC) rfl rfl rfl rfl ?_)
    try any_goals (refine W_assign (d := 10) (sq_stepper hC) rfl rfl rfl ?_)
    try any_goals ((refine Sq_nil ?_; try refine G_then ?_))
    try any_goals (refine H_ret ?_)
    repeat (any_goals (first | refine G_ret_then ?_ | refine G_ret_block ?_))
    all_goals first
      | exact R1v rfl (fun _ h => h) rfl (congrArg Value.bool (by rw [cdOk, h]; rfl))
      | trace_state
  · rw [h] at hA
    try any_goals ((refine H_seq ?_; try refine H_reg ?_))
    try any_goals (refine W_boxA (d := 5) (sq_stepper hC) rfl rfl rfl ?_)
    try any_goals (refine W_boxA (d := 6) (sq_stepper hC) rfl rfl rfl ?_)
    try any_goals (refine W_assign (d := 10) (sq_stepper hC) rfl rfl rfl ?_)
    try any_goals ((refine Sq_nil ?_; try refine G_then ?_))
    try any_goals ((refine H_seq ?_; try refine H_reg ?_))
    try any_goals (refine W_loadA (d := 11) (sq_stepper hC) (by kernel_rfl) rfl rfl rfl ?_)
    try any_goals (refine W_loadA (d := 12) (sq_stepper hC) (by kernel_rfl) rfl rfl rfl ?_)
    try any_goals (refine W_move (d := 13) (sq_stepper hC) rfl rfl rfl ?_)
    try any_goals (refine W_move (d := 14) (sq_stepper hC) rfl rfl rfl ?_)
    try any_goals (refine W_ct (d := 15) (sq_stepper hC) (hA) rfl rfl rfl (by kernel_rfl) ?_)
    try any_goals (refine W_move (d := 16) (sq_stepper hC) rfl rfl rfl ?_)
    try any_goals ((refine W_splitG (sq_stepper hC) _ rfl _ rfl (fun hq => ?_) (fun hq => ?_) <;> ((try simp only [hqs, reduceCtorEq] at hq); try (have hq' := hq; clear hq))))
    try any_goals (refine W_loadA (d := 17) (sq_stepper hC) (by kernel_rfl) rfl rfl rfl ?_)
    try any_goals (refine W_loadA (d := 18) (sq_stepper hC) (by kernel_rfl) rfl rfl rfl ?_)
    try any_goals (refine W_move (d := 19) (sq_stepper hC) rfl rfl rfl ?_)
    try any_goals (refine W_move (d := 20) (sq_stepper hC) rfl rfl rfl ?_)
    try any_goals (refine W_ct (d := 21) (sq_stepper hC) (ct_l19Possible _ _ _ _ (latB_bl h)) rfl rfl rfl (by kernel_rfl) ?_)
    try any_goals (refine W_pickT (d := 22) (sq_stepper hC) rfl rfl rfl rfl ?_)
    try any_goals (refine W_assign (d := 10) (sq_stepper hC) rfl rfl rfl ?_)
    try any_goals ((refine Sq_nil ?_; try refine G_then ?_))
    try any_goals (refine H_ret ?_)
    repeat (any_goals (first | refine G_ret_then ?_ | refine G_ret_block ?_))
    all_goals first
      | exact R1v rfl (fun _ h => h) rfl (congrArg Value.bool (by rw [cdOk, h]; rfl))
      | trace_state
theorem ct_l19Delays {e1 e2 e3 e4 : Option TypeId} (t : Tab) (f : Flt) (B : List (List Int)) (xs : List Dly) (c : List Int) (hk : BlV t f B) (hm : MinOk xs) : CT Tryz.prog 56 [.inr (uA bTab t), .inr (uA bFlt f), .inr (uS e1 (pS e2 pI) B), .inr (uS e3 pDly xs), .inr (uS e4 pI c)] (.inr (uS (some 3) pI (cdL t f B xs c))) :=
  (cg_l19Delays t f B xs c hk hm).ct fun s v w ⟨_, _, h⟩ => OS.isS h
theorem ct_choiceDelays {e1 e2 e3 e4 : Option TypeId} (t : Tab) (f : Flt) (B : List (List Int)) (xs : List Dly) (c : List Int) (hk : BlV t f B) (hm : MinOk xs) (hc0 : canB t c = true) : CT Tryz.prog 59 [.inr (uA bTab t), .inr (uA bFlt f), .inr (uS e1 (pS e2 pI) B), .inr (uS e3 pDly xs), .inr (uS e4 pI c)] (.inr (uS (some 3) pI (cdL t f B xs c))) :=
  (cg_choiceDelays t f B xs c hk hm hc0).ct fun s v w ⟨_, _, h⟩ => OS.isS h
def cdR (t : Tab) (f : Flt) (B : List (List Int)) (xs : List Dly) (c : List Int) : List Int := if cdOk t f B xs c then cdL t f B xs c else []
theorem cdR_y {t : Tab} {f : Flt} {B : List (List Int)} {xs : List Dly} {c : List Int} (h : cdOk t f B xs c = true) : cdR t f B xs c = cdL t f B xs c := by rw [cdR, h]; rfl
theorem cdR_n {t : Tab} {f : Flt} {B : List (List Int)} {xs : List Dly} {c : List Int} (h : cdOk t f B xs c = false) : cdR t f B xs c = [] := by rw [cdR, h]; rfl
theorem cdR_len {t : Tab} {f : Flt} {B : List (List Int)} {xs : List Dly} {c : List Int} : (cdR t f B xs c).length ≤ 12 := by
  unfold cdR
  split
  · rename_i h
    have h1 := (tabB_k (cdOk_t h).1.hv).2.1
    rw [cdL_len]
    omega
  · exact Nat.zero_le _
theorem ct_sChd {e1 e2 e3 e4 : Option TypeId} (t : Tab) (f : Flt) (B : List (List Int)) (xs : List Dly) (c : List Int) : CT Tryz.prog 28 [.inr (uA bTab t), .inr (uA bFlt f), .inr (uS e1 (pS e2 pI) B), .inr (uS e3 pDly xs), .inr (uS e4 pI c)] (.inr (uT [.inr (uS (some 3) pI (cdR t f B xs c)), .inl (.bool (cdOk t f B xs c))])) := by
  refine CT_of Tryz.func28 rfl rfl rfl (fun w => ?_)
  have hC := upC_ext w
  have hA := ct_l19Asked (e1 := e1) (e2 := e2) (e3 := e3) (e4 := e4) t f B xs c
  cases h : cdOk t f B xs c
  · rw [h] at hA
    try any_goals ((refine H_seq ?_; try refine H_reg ?_))
    try any_goals (refine W_boxA (d := 5) (sq_stepper hC) rfl rfl rfl ?_)
    try any_goals (refine W_boxA (d := 6) (sq_stepper hC) rfl rfl rfl ?_)
    try any_goals (refine W_assign (d := 10) (sq_stepper hC) rfl rfl rfl ?_)
    try any_goals (refine W_assign (d := 11) (sq_stepper hC) rfl rfl rfl ?_)
    try any_goals ((refine Sq_nil ?_; try refine G_then ?_))
    try any_goals (refine H_seq ?_)
    try any_goals ((refine H_seq ?_; try refine H_reg ?_))
    try any_goals (refine W_loadA (d := 12) (sq_stepper hC) (by kernel_rfl) rfl rfl rfl ?_)
    try any_goals (refine W_loadA (d := 13) (sq_stepper hC) (by kernel_rfl) rfl rfl rfl ?_)
    try any_goals (refine W_move (d := 14) (sq_stepper hC) rfl rfl rfl ?_)
    try any_goals (refine W_move (d := 15) (sq_stepper hC) rfl rfl rfl ?_)
    try any_goals (refine W_move (d := 16) (sq_stepper hC) rfl rfl rfl ?_)
    try any_goals (refine W_ct (d := 17) (sq_stepper hC) (hA) rfl rfl rfl (by kernel_rfl) ?_)
    try any_goals (refine W_not (d := 18) (sq_stepper hC) rfl rfl rfl ?_)
    try any_goals ((refine Sq_nil ?_; try refine G_then ?_))
    try any_goals (refine H_condT rfl ?_)
    try any_goals ((refine H_seq ?_; try refine H_reg ?_))
    try any_goals ((refine W_buildS (d := 19) (sq_stepper hC) [] pI [] (e := 3) (by kernel_rfl) (by kernel_rfl) rfl rfl (by kernel_rfl) rfl rfl rfl trivial ?_))
    try any_goals (refine W_assign (d := 10) (sq_stepper hC) rfl rfl rfl ?_)
    try any_goals (refine W_assign (d := 11) (sq_stepper hC) rfl rfl rfl ?_)
    try any_goals ((refine Sq_nil ?_; try refine G_then ?_))
    try any_goals (refine H_ret ?_)
    repeat (any_goals (first | refine G_ret_then ?_ | refine G_ret_block ?_))
    repeat (any_goals (first | refine G_ret_then ?_ | refine G_ret_block ?_))
    all_goals first
      | exact R2 rfl (fun _ h => h) rfl rfl (fun v w' _ hv => by rw [cdR_n h]; exact hv) (fun v w' _ hv => hv)
      | trace_state
  · rw [h] at hA
    try any_goals ((refine H_seq ?_; try refine H_reg ?_))
    try any_goals (refine W_boxA (d := 5) (sq_stepper hC) rfl rfl rfl ?_)
    try any_goals (refine W_boxA (d := 6) (sq_stepper hC) rfl rfl rfl ?_)
    try any_goals (refine W_assign (d := 10) (sq_stepper hC) rfl rfl rfl ?_)
    try any_goals (refine W_assign (d := 11) (sq_stepper hC) rfl rfl rfl ?_)
    try any_goals ((refine Sq_nil ?_; try refine G_then ?_))
    try any_goals (refine H_seq ?_)
    try any_goals ((refine H_seq ?_; try refine H_reg ?_))
    try any_goals (refine W_loadA (d := 12) (sq_stepper hC) (by kernel_rfl) rfl rfl rfl ?_)
    try any_goals (refine W_loadA (d := 13) (sq_stepper hC) (by kernel_rfl) rfl rfl rfl ?_)
    try any_goals (refine W_move (d := 14) (sq_stepper hC) rfl rfl rfl ?_)
    try any_goals (refine W_move (d := 15) (sq_stepper hC) rfl rfl rfl ?_)
    try any_goals (refine W_move (d := 16) (sq_stepper hC) rfl rfl rfl ?_)
    try any_goals (refine W_ct (d := 17) (sq_stepper hC) (hA) rfl rfl rfl (by kernel_rfl) ?_)
    try any_goals (refine W_not (d := 18) (sq_stepper hC) rfl rfl rfl ?_)
    try any_goals ((refine Sq_nil ?_; try refine G_then ?_))
    try any_goals (refine H_condF rfl ?_)
    repeat (any_goals (first | refine G_ret_then ?_ | refine G_ret_block ?_))
    try any_goals (refine H_skip ?_)
    try any_goals (refine G_then ?_)
    try any_goals ((refine H_seq ?_; try refine H_reg ?_))
    try any_goals (refine W_loadA (d := 20) (sq_stepper hC) (by kernel_rfl) rfl rfl rfl ?_)
    try any_goals (refine W_loadA (d := 21) (sq_stepper hC) (by kernel_rfl) rfl rfl rfl ?_)
    try any_goals (refine W_move (d := 22) (sq_stepper hC) rfl rfl rfl ?_)
    try any_goals (refine W_move (d := 23) (sq_stepper hC) rfl rfl rfl ?_)
    try any_goals (refine W_move (d := 24) (sq_stepper hC) rfl rfl rfl ?_)
    try any_goals (refine W_ct (d := 25) (sq_stepper hC) (ct_l19Delays _ _ _ _ _ (cdOk_t h).1 (cdOk_t h).2.1) rfl rfl rfl (by kernel_rfl) ?_)
    try any_goals (refine W_assign (d := 10) (sq_stepper hC) rfl rfl rfl ?_)
    try any_goals (refine W_assign (d := 11) (sq_stepper hC) rfl rfl rfl ?_)
    try any_goals ((refine Sq_nil ?_; try refine G_then ?_))
    try any_goals (refine H_ret ?_)
    repeat (any_goals (first | refine G_ret_then ?_ | refine G_ret_block ?_))
    all_goals first
      | exact R2 rfl (fun _ h => h) rfl rfl (fun v w' _ hv => by rw [cdR_y h]; exact hv) (fun v w' _ hv => hv)
      | trace_state
theorem chOk_n {t : Tab} {f : Flt} {B : List (List Int)} {xs : List Dly} {c : List Int} (h : chOk t f B c = false) : cdOk t f B xs c = false := by
  cases h1 : (runOk t f && blkB t f B)
  · simp [cdOk, latB, h1]
  · rw [chOk, h1, Bool.true_and] at h
    simp [cdOk, h]
theorem chOk_n2 {t : Tab} {f : Flt} {B : List (List Int)} {xs : List Dly} {c : List Int} (h : delsB t xs = false) : cdOk t f B xs c = false := by simp [cdOk, latB, h]
theorem chOk_y {t : Tab} {f : Flt} {B : List (List Int)} {xs : List Dly} {c : List Int} (h : chOk t f B c = true) (h2 : delsB t xs = true) : cdOk t f B xs c = true := by
  rw [chOk, Bool.and_eq_true] at h
  rw [cdOk, latB, h.1, h.2, h2]
  rfl
theorem chOk_bl {t : Tab} {f : Flt} {B : List (List Int)} {c : List Int} (h : chOk t f B c = true) : BlV t f B := by
  rw [chOk, Bool.and_eq_true] at h
  exact BlV.of h.1
theorem cg_iChd {e1 e2 e3 e4 : Option TypeId} (t : Tab) (f : Flt) (B : List (List Int)) (xs : List Dly) (c : List Int) : CTG Tryz.prog 30 [.inr (uA bTab t), .inr (uA bFlt f), .inr (uS e1 (pS e2 pI) B), .inr (uS e3 pDly xs), .inr (uS e4 pI c)] (fun s => .inr (uT [.inr (uO s oIntS (cdR t f B xs c)), .inl (.bool (cdOk t f B xs c))])) := by
  refine CTG_of Tryz.func30 rfl rfl rfl (fun w s hs => ?_)
  have hC := upC_ext w
  have hA := ct_iPoss (e1 := e1) (e2 := e2) (e3 := e4) t f B c
  cases h : chOk t f B c
  · have hn : cdOk t f B xs c = false := chOk_n h
    rw [h] at hA
    try any_goals ((refine H_seq ?_; try refine H_reg ?_))
    try any_goals (refine W_boxA (d := 5) (sq_stepper hC) rfl rfl rfl ?_)
    try any_goals (refine W_boxA (d := 6) (sq_stepper hC) rfl rfl rfl ?_)
    try any_goals (refine W_assign (d := 10) (sq_stepper hC) rfl rfl rfl ?_)
    try any_goals (refine W_assign (d := 11) (sq_stepper hC) rfl rfl rfl ?_)
    try any_goals ((refine Sq_nil ?_; try refine G_then ?_))
    try any_goals (refine H_seq ?_)
    try any_goals ((refine H_seq ?_; try refine H_reg ?_))
    try any_goals (refine W_loadA (d := 12) (sq_stepper hC) (by kernel_rfl) rfl rfl rfl ?_)
    try any_goals (refine W_loadA (d := 13) (sq_stepper hC) (by kernel_rfl) rfl rfl rfl ?_)
    try any_goals (refine W_move (d := 14) (sq_stepper hC) rfl rfl rfl ?_)
    try any_goals (refine W_move (d := 15) (sq_stepper hC) rfl rfl rfl ?_)
    try any_goals (refine W_ct (d := 16) (sq_stepper hC) (hA) rfl rfl rfl (by kernel_rfl) ?_)
    try any_goals (refine W_not (d := 17) (sq_stepper hC) rfl rfl rfl ?_)
    try any_goals (refine W_move (d := 18) (sq_stepper hC) rfl rfl rfl ?_)
    try any_goals ((refine W_splitG (sq_stepper hC) _ rfl _ rfl (fun hq => ?_) (fun hq => ?_) <;> ((try simp only [hqs, reduceCtorEq] at hq); try (have hq' := hq; clear hq))))
    try any_goals (refine W_skip (d := 19) (sq_stepper hC) rfl rfl ?_)
    try any_goals (refine W_skip (d := 20) (sq_stepper hC) rfl rfl ?_)
    try any_goals (refine W_skip (d := 21) (sq_stepper hC) rfl rfl ?_)
    try any_goals (refine W_skip (d := 22) (sq_stepper hC) rfl rfl ?_)
    try any_goals (refine W_pickT (d := 23) (sq_stepper hC) rfl rfl rfl rfl ?_)
    try any_goals ((refine Sq_nil ?_; try refine G_then ?_))
    try any_goals (refine H_condT rfl ?_)
    try any_goals ((refine H_seq ?_; try refine H_reg ?_))
    try any_goals (refine W_assign (d := 10) (sq_stepper hC) rfl rfl rfl ?_)
    try any_goals (refine W_assign (d := 11) (sq_stepper hC) rfl rfl rfl ?_)
    try any_goals ((refine Sq_nil ?_; try refine G_then ?_))
    try any_goals (refine H_ret ?_)
    repeat (any_goals (first | refine G_ret_then ?_ | refine G_ret_block ?_))
    repeat (any_goals (first | refine G_ret_then ?_ | refine G_ret_block ?_))
    all_goals first
      | exact R2 rfl (fun _ h => h) rfl rfl (fun v w' _ hv => by rw [cdR_n hn, show v = _ from hv]; exact nil_OS) (fun v w' _ hv => by rw [hn]; exact hv)
      | trace_state
  · rw [h] at hA
    have hkv := chOk_bl h
    have hD := ct_areDelays (e := e3) t xs hkv.hv
    cases h2 : delsB t xs
    · have hn : cdOk t f B xs c = false := chOk_n2 h2
      rw [h2] at hD
      try any_goals ((refine H_seq ?_; try refine H_reg ?_))
      try any_goals (refine W_boxA (d := 5) (sq_stepper hC) rfl rfl rfl ?_)
      try any_goals (refine W_boxA (d := 6) (sq_stepper hC) rfl rfl rfl ?_)
      try any_goals (refine W_assign (d := 10) (sq_stepper hC) rfl rfl rfl ?_)
      try any_goals (refine W_assign (d := 11) (sq_stepper hC) rfl rfl rfl ?_)
      try any_goals ((refine Sq_nil ?_; try refine G_then ?_))
      try any_goals (refine H_seq ?_)
      try any_goals ((refine H_seq ?_; try refine H_reg ?_))
      try any_goals (refine W_loadA (d := 12) (sq_stepper hC) (by kernel_rfl) rfl rfl rfl ?_)
      try any_goals (refine W_loadA (d := 13) (sq_stepper hC) (by kernel_rfl) rfl rfl rfl ?_)
      try any_goals (refine W_move (d := 14) (sq_stepper hC) rfl rfl rfl ?_)
      try any_goals (refine W_move (d := 15) (sq_stepper hC) rfl rfl rfl ?_)
      try any_goals (refine W_ct (d := 16) (sq_stepper hC) (hA) rfl rfl rfl (by kernel_rfl) ?_)
      try any_goals (refine W_not (d := 17) (sq_stepper hC) rfl rfl rfl ?_)
      try any_goals (refine W_move (d := 18) (sq_stepper hC) rfl rfl rfl ?_)
      try any_goals ((refine W_splitG (sq_stepper hC) _ rfl _ rfl (fun hq => ?_) (fun hq => ?_) <;> ((try simp only [hqs, reduceCtorEq] at hq); try (have hq' := hq; clear hq))))
      try any_goals (refine W_loadA (d := 19) (sq_stepper hC) (by kernel_rfl) rfl rfl rfl ?_)
      try any_goals (refine W_move (d := 20) (sq_stepper hC) rfl rfl rfl ?_)
      try any_goals (refine W_ct (d := 21) (sq_stepper hC) (hD) rfl rfl rfl (by kernel_rfl) ?_)
      try any_goals (refine W_not (d := 22) (sq_stepper hC) rfl rfl rfl ?_)
      try any_goals (refine W_pickF (d := 23) (sq_stepper hC) rfl rfl rfl rfl ?_)
      try any_goals ((refine Sq_nil ?_; try refine G_then ?_))
      try any_goals (refine H_condT rfl ?_)
      try any_goals ((refine H_seq ?_; try refine H_reg ?_))
      try any_goals (refine W_assign (d := 10) (sq_stepper hC) rfl rfl rfl ?_)
      try any_goals (refine W_assign (d := 11) (sq_stepper hC) rfl rfl rfl ?_)
      try any_goals ((refine Sq_nil ?_; try refine G_then ?_))
      try any_goals (refine H_ret ?_)
      repeat (any_goals (first | refine G_ret_then ?_ | refine G_ret_block ?_))
      repeat (any_goals (first | refine G_ret_then ?_ | refine G_ret_block ?_))
      all_goals first
        | exact R2 rfl (fun _ h => h) rfl rfl (fun v w' _ hv => by rw [cdR_n hn, show v = _ from hv]; exact nil_OS) (fun v w' _ hv => by rw [hn]; exact hv)
        | trace_state
    · have hy : cdOk t f B xs c = true := chOk_y h h2
      have hm := (cdOk_t hy).2.1
      have hcan := (cdOk_t hy).2.2
      rw [h2] at hD
      try any_goals ((refine H_seq ?_; try refine H_reg ?_))
      try any_goals (refine W_boxA (d := 5) (sq_stepper hC) rfl rfl rfl ?_)
      try any_goals (refine W_boxA (d := 6) (sq_stepper hC) rfl rfl rfl ?_)
      try any_goals (refine W_assign (d := 10) (sq_stepper hC) rfl rfl rfl ?_)
      try any_goals (refine W_assign (d := 11) (sq_stepper hC) rfl rfl rfl ?_)
      try any_goals ((refine Sq_nil ?_; try refine G_then ?_))
      try any_goals (refine H_seq ?_)
      try any_goals ((refine H_seq ?_; try refine H_reg ?_))
      try any_goals (refine W_loadA (d := 12) (sq_stepper hC) (by kernel_rfl) rfl rfl rfl ?_)
      try any_goals (refine W_loadA (d := 13) (sq_stepper hC) (by kernel_rfl) rfl rfl rfl ?_)
      try any_goals (refine W_move (d := 14) (sq_stepper hC) rfl rfl rfl ?_)
      try any_goals (refine W_move (d := 15) (sq_stepper hC) rfl rfl rfl ?_)
      try any_goals (refine W_ct (d := 16) (sq_stepper hC) (hA) rfl rfl rfl (by kernel_rfl) ?_)
      try any_goals (refine W_not (d := 17) (sq_stepper hC) rfl rfl rfl ?_)
      try any_goals (refine W_move (d := 18) (sq_stepper hC) rfl rfl rfl ?_)
      try any_goals ((refine W_splitG (sq_stepper hC) _ rfl _ rfl (fun hq => ?_) (fun hq => ?_) <;> ((try simp only [hqs, reduceCtorEq] at hq); try (have hq' := hq; clear hq))))
      try any_goals (refine W_loadA (d := 19) (sq_stepper hC) (by kernel_rfl) rfl rfl rfl ?_)
      try any_goals (refine W_move (d := 20) (sq_stepper hC) rfl rfl rfl ?_)
      try any_goals (refine W_ct (d := 21) (sq_stepper hC) (hD) rfl rfl rfl (by kernel_rfl) ?_)
      try any_goals (refine W_not (d := 22) (sq_stepper hC) rfl rfl rfl ?_)
      try any_goals (refine W_pickF (d := 23) (sq_stepper hC) rfl rfl rfl rfl ?_)
      try any_goals ((refine Sq_nil ?_; try refine G_then ?_))
      try any_goals (refine H_condF rfl ?_)
      repeat (any_goals (first | refine G_ret_then ?_ | refine G_ret_block ?_))
      try any_goals (refine H_skip ?_)
      try any_goals (refine G_then ?_)
      try any_goals ((refine H_seq ?_; try refine H_reg ?_))
      try any_goals (refine W_loadA (d := 24) (sq_stepper hC) (by kernel_rfl) rfl rfl rfl ?_)
      try any_goals (refine W_loadA (d := 25) (sq_stepper hC) (by kernel_rfl) rfl rfl rfl ?_)
      try any_goals (refine W_move (d := 26) (sq_stepper hC) rfl rfl rfl ?_)
      try any_goals (refine W_move (d := 27) (sq_stepper hC) rfl rfl rfl ?_)
      try any_goals (refine W_move (d := 28) (sq_stepper hC) rfl rfl rfl ?_)
      try any_goals ((refine W_ctG (d := 29) (sq_stepper hC) (cg_choiceDelays t f B xs c hkv hm hcan) (fun w' h => Nat.le_trans hs h.size) rfl rfl rfl (by kernel_rfl) ?_))
      try any_goals (refine W_assign (d := 10) (sq_stepper hC) rfl rfl rfl ?_)
      try any_goals (refine W_assign (d := 11) (sq_stepper hC) rfl rfl rfl ?_)
      try any_goals ((refine Sq_nil ?_; try refine G_then ?_))
      try any_goals (refine H_ret ?_)
      repeat (any_goals (first | refine G_ret_then ?_ | refine G_ret_block ?_))
      all_goals first
        | exact R2 rfl (fun _ h => h) rfl rfl (fun v w' _ hv => by rw [cdR_y hy]; exact hv) (fun v w' _ hv => by rw [hy]; exact hv)
        | trace_state
theorem ct_l19Cost {e1 e2 e3 e4 : Option TypeId} (t : Tab) (f : Flt) (B : List (List Int)) (xs : List Dly) (p : Int) (c : List Int) (hk : BlV t f B) (hm : MinOk xs) (hp : 0 ≤ p ∧ p ≤ 1000) : CT Tryz.prog 62 [.inr (uA bTab t), .inr (uA bFlt f), .inr (uS e1 (pS e2 pI) B), .inr (uS e3 pDly xs), .inl (.int .i64 p), .inr (uS e4 pI c)] (.inl (.int .i64 (coS t (cdL t f B xs c) p t.T.length))) := by
  have h12 := (tabB_k hk.hv).2.1
  have hcl := cdL_len (t := t) (f := f) (B := B) (xs := xs) (c := c)
  have hdb := cdL_db (c := c) hk hm
  refine CT_of Tryz.func62 rfl rfl rfl (fun w => ?_)
  have hC := upC_ext w
  try any_goals ((refine H_seq ?_; try refine H_reg ?_))
  try any_goals (refine W_boxA (d := 6) (sq_stepper hC) rfl rfl rfl ?_)
  try any_goals (refine W_boxA (d := 7) (sq_stepper hC) rfl rfl rfl ?_)
  try any_goals (refine W_assign (d := 12) (sq_stepper hC) rfl rfl rfl ?_)
  try any_goals ((refine Sq_nil ?_; try refine G_then ?_))
  try any_goals ((refine H_seq ?_; try refine H_reg ?_))
  try any_goals (refine W_loadA (d := 17) (sq_stepper hC) (by kernel_rfl) rfl rfl rfl ?_)
  try any_goals (refine W_loadA (d := 18) (sq_stepper hC) (by kernel_rfl) rfl rfl rfl ?_)
  try any_goals (refine W_move (d := 19) (sq_stepper hC) rfl rfl rfl ?_)
  try any_goals (refine W_move (d := 20) (sq_stepper hC) rfl rfl rfl ?_)
  try any_goals (refine W_move (d := 21) (sq_stepper hC) rfl rfl rfl ?_)
  try any_goals (refine W_ct (d := 22) (sq_stepper hC) (ct_l19Delays _ _ _ _ _ hk hm) rfl rfl rfl (by kernel_rfl) ?_)
  try any_goals (refine W_assign (d := 13) (sq_stepper hC) rfl rfl rfl ?_)
  try any_goals ((refine Sq_nil ?_; try refine G_then ?_))
  try any_goals ((refine H_seq ?_; try refine H_reg ?_))
  try any_goals (refine W_assign (d := 14) (sq_stepper hC) rfl rfl rfl ?_)
  try any_goals ((refine Sq_nil ?_; try refine G_then ?_))
  try any_goals (refine H_seq ?_)
  try any_goals ((refine H_seq ?_; try refine H_reg ?_))
  try any_goals (refine W_assign (d := 15) (sq_stepper hC) rfl rfl rfl ?_)
  try any_goals ((refine Sq_nil ?_; try refine G_then ?_))
  try any_goals (refine H_block ?_)
  try any_goals ((refine H_loop (σ := Nat) (fun i => i ≤ t.T.length) (fun i => [(4, .inl (.int .i64 p)), (6, .inr (uP bTab t)), (13, .inr (uS (some 3) pI (cdL t f B xs c))), (14, .inl (.int .i64 (coS t (cdL t f B xs c) p i))), (15, .inl (.int .i64 i))]) (fun _ => Ext w) (fun i => t.T.length - i) 0 (Nat.zero_le _) (fun a w h => h.sub (by repeat (first | exact trivial | refine ⟨⟨_, rfl, fun _ _ _ h => h⟩, ?_⟩ | refine ⟨⟨_, rfl, fun v w _ h => (show v = _ from h).trans (congrArg (Value.int .i64) (by first | omega | (dsimp only; omega)))⟩, ?_⟩)) fun _ h => h) (fun i hi => ?_); have hsb : 0 ≤ coS t (cdL t f B xs c) p i ∧ coS t (cdL t f B xs c) p i ≤ 158400 * i := coS_bd (c := c) hk.hv hdb hp (by omega)))
  try any_goals (refine H_seq ?_)
  try any_goals ((refine H_seq ?_; try refine H_reg ?_))
  try any_goals (refine W_move (d := 23) (sq_stepper hC) rfl rfl rfl ?_)
  try any_goals (refine W_move (d := 24) (sq_stepper hC) rfl rfl rfl ?_)
  try any_goals (refine W_len (d := 25) (sq_stepper hC) (by kernel_rfl) rfl rfl rfl ?_)
  try any_goals (refine W_cmp (d := 26) (sq_stepper hC) rfl rfl rfl rfl rfl ?_)
  try any_goals ((refine Sq_nil ?_; try refine G_then ?_))
  try any_goals ((refine H_cond _ rfl (fun hq => ?_) (fun hq => Wt.un 0 ?_) <;> (try simp only [hqs, reduceCtorEq] at hq)))
  try any_goals (first | ((have hkb : 0 ≤ coK t (cdL t f B xs c) p i ∧ coK t (cdL t f B xs c) p i ≤ 158400 := coK_bd (c := c) hk.hv hdb hp (by omega); have hst : coS t (cdL t f B xs c) p (i + 1) = coS t (cdL t f B xs c) p i + coK t (cdL t f B xs c) p i := rfl)) | skip)
  try any_goals (skip)
  try any_goals (skip)
  try any_goals (refine H_skip ?_)
  try any_goals (refine G_hold 1 ?_)
  try any_goals (refine Wt.out 0 ?_)
  try any_goals (refine H_exit ?_)
  repeat (any_goals (first | refine G_exit_then ?_ | refine G_exit_here ?_ | refine G_exit_far rfl ?_))
  try any_goals (refine G_hold 2 ?_)
  try any_goals (refine Wt.out 1 ?_)
  try any_goals (refine G_then ?_)
  try any_goals (refine H_seq ?_)
  try any_goals (refine H_block ?_)
  try any_goals ((refine H_seq ?_; try refine H_reg ?_))
  try any_goals (refine W_move (d := 29) (sq_stepper hC) rfl rfl rfl ?_)
  try any_goals (refine W_move (d := 30) (sq_stepper hC) rfl rfl rfl ?_)
  try any_goals (refine W_index (d := 31) (sq_stepper hC) (by kernel_rfl) rfl rfl rfl rfl (by first | omega | (dsimp only; omega)) ?_)
  try any_goals (refine W_loadI (d := 32) (sq_stepper hC) (by kernel_rfl) rfl rfl rfl ?_)
  try any_goals (refine W_assign (d := 16) (sq_stepper hC) rfl rfl rfl ?_)
  try any_goals ((refine Sq_nil ?_; try refine G_then ?_))
  try any_goals (refine H_seq ?_)
  try any_goals ((refine H_seq ?_; try refine H_reg ?_))
  try any_goals (refine W_move (d := 33) (sq_stepper hC) rfl rfl rfl ?_)
  try any_goals (refine W_cmp (d := 34) (sq_stepper hC) rfl rfl rfl rfl rfl ?_)
  try any_goals ((refine Sq_nil ?_; try refine G_then ?_))
  try any_goals ((refine H_cond _ rfl (fun hq => ?_) (fun hq => Wt.un 3 ?_) <;> (try simp only [hqs, reduceCtorEq] at hq)))
  try any_goals (first | ((have hkb : 0 ≤ coK t (cdL t f B xs c) p i ∧ coK t (cdL t f B xs c) p i ≤ 158400 := coK_bd (c := c) hk.hv hdb hp (by omega); have hst : coS t (cdL t f B xs c) p (i + 1) = coS t (cdL t f B xs c) p i + coK t (cdL t f B xs c) p i := rfl)) | skip)
  try any_goals (first | ((rw [coK_y hq] at hkb hst)) | skip)
  try any_goals (first | ((rw [coK_n hq] at hkb hst)) | skip)
  try any_goals (refine H_reg ?_)
  try any_goals (refine W_move (d := 35) (sq_stepper hC) rfl rfl rfl ?_)
  try any_goals (refine W_assign (d := 16) (sq_stepper hC) rfl rfl rfl ?_)
  try any_goals (refine Sq_nil ?_)
  try any_goals (refine G_hold 4 ?_)
  try any_goals (refine Wt.out 3 ?_)
  try any_goals (refine H_skip ?_)
  try any_goals (refine Wt.out 4 ?_)
  try any_goals (refine G_then ?_)
  try any_goals (refine H_reg ?_)
  try any_goals (refine W_move (d := 36) (sq_stepper hC) rfl rfl rfl ?_)
  try any_goals (refine W_move (d := 37) (sq_stepper hC) rfl rfl rfl ?_)
  try any_goals (refine W_loadA (d := 38) (sq_stepper hC) (by kernel_rfl) rfl rfl rfl ?_)
  try any_goals (refine W_move (d := 39) (sq_stepper hC) rfl rfl rfl ?_)
  try any_goals (refine W_ct (d := 40) (sq_stepper hC) (ct_l5Stops _ _ ⟨by omega, by omega⟩ (tr_ok hk.hv ⟨by omega, by omega⟩).1) rfl rfl rfl (by kernel_rfl) ?_)
  try any_goals (refine W_len (d := 41) (sq_stepper hC) (by kernel_rfl) rfl rfl rfl ?_)
  try any_goals (refine W_ar (d := 42) (sq_stepper hC) rfl rfl rfl rfl rfl (by first | omega | (dsimp only; omega)) ?_)
  try any_goals (refine W_ar (d := 43) (sq_stepper hC) rfl rfl rfl rfl rfl (by first | omega | (dsimp only; omega)) ?_)
  try any_goals (refine W_assign (d := 14) (sq_stepper hC) rfl rfl rfl ?_)
  try any_goals (refine Sq_nil ?_)
  repeat (any_goals (first | refine G_exit_then ?_ | refine G_exit_here ?_ | refine G_exit_far rfl ?_ | refine G_normal_block ?_))
  try any_goals (refine G_then ?_)
  try any_goals (refine H_reg ?_)
  try any_goals (refine W_move (d := 27) (sq_stepper hC) rfl rfl rfl ?_)
  try any_goals (refine W_ar (d := 28) (sq_stepper hC) rfl rfl rfl rfl rfl (by first | omega | (dsimp only; omega)) ?_)
  try any_goals (refine W_assign (d := 15) (sq_stepper hC) rfl rfl rfl ?_)
  try any_goals (refine Sq_nil ?_)
  try any_goals (refine G_again (i + 1) (by omega) (by omega) (by repeat (first | exact trivial | refine ⟨⟨_, rfl, fun _ _ _ h => h⟩, ?_⟩ | refine ⟨⟨_, rfl, fun v w _ h => (show v = _ from h).trans (congrArg (Value.int .i64) (by first | omega | (dsimp only; omega)))⟩, ?_⟩)) (fun _ h => h))
  try any_goals (refine Wt.out 2 ?_)
  repeat (any_goals (first | refine G_exit_then ?_ | refine G_exit_here ?_ | refine G_exit_far rfl ?_ | refine G_normal_block ?_))
  try any_goals (refine G_then ?_)
  try any_goals ((refine H_seq ?_; try refine H_reg ?_))
  try any_goals (refine W_move (d := 44) (sq_stepper hC) rfl rfl rfl ?_)
  try any_goals (refine W_assign (d := 12) (sq_stepper hC) rfl rfl rfl ?_)
  try any_goals ((refine Sq_nil ?_; try refine G_then ?_))
  try any_goals (refine H_ret ?_)
  repeat (any_goals (first | refine G_ret_then ?_ | refine G_ret_block ?_))
  all_goals first
    | (exact R1v rfl (fun _ h => h) rfl (by rw [show i = t.T.length by omega]))
    | trace_state
theorem ct_isPenalty (p : Int) : CT Tryz.prog 63 [.inl (.int .i64 p)] (.inl (.bool (inB p 0 1000))) := by
  refine CT_of Tryz.func63 rfl rfl rfl (fun w => ?_)
  have hC := upC_ext w
  try any_goals ((refine H_seq ?_; try refine H_reg ?_))
  try any_goals (refine W_assign (d := 2) (sq_stepper hC) rfl rfl rfl ?_)
  try any_goals ((refine Sq_nil ?_; try refine G_then ?_))
  try any_goals ((refine H_seq ?_; try refine H_reg ?_))
  try any_goals (refine W_move (d := 3) (sq_stepper hC) rfl rfl rfl ?_)
  try any_goals (refine W_ct (d := 4) (sq_stepper hC) (ct_within _ _ _) rfl rfl rfl (by kernel_rfl) ?_)
  try any_goals (refine W_assign (d := 2) (sq_stepper hC) rfl rfl rfl ?_)
  try any_goals ((refine Sq_nil ?_; try refine G_then ?_))
  try any_goals (refine H_ret ?_)
  repeat (any_goals (first | refine G_ret_then ?_ | refine G_ret_block ?_))
  all_goals exact R1v rfl (fun _ h => h) rfl rfl
theorem ct_choiceCost {e1 e2 e3 e4 : Option TypeId} (t : Tab) (f : Flt) (B : List (List Int)) (xs : List Dly) (p : Int) (c : List Int) (hk : BlV t f B) (hm : MinOk xs) (hp : 0 ≤ p ∧ p ≤ 1000) (hcan : canB t c = true) : CT Tryz.prog 64 [.inr (uA bTab t), .inr (uA bFlt f), .inr (uS e1 (pS e2 pI) B), .inr (uS e3 pDly xs), .inl (.int .i64 p), .inr (uS e4 pI c)] (.inl (.int .i64 (coS t (cdL t f B xs c) p t.T.length))) := by
  have h12 := (tabB_k hk.hv).2.1
  have hcl := cdL_len (t := t) (f := f) (B := B) (xs := xs) (c := c)
  have hdb := cdL_db (c := c) hk hm
  refine CT_of Tryz.func64 rfl rfl rfl (fun w => ?_)
  have hC := upC_ext w
  try any_goals ((refine H_seq ?_; try refine H_reg ?_))
  try any_goals (refine W_boxA (d := 6) (sq_stepper hC) rfl rfl rfl ?_)
  try any_goals (refine W_boxA (d := 7) (sq_stepper hC) rfl rfl rfl ?_)
  try any_goals (refine W_assign (d := 12) (sq_stepper hC) rfl rfl rfl ?_)
  try any_goals ((refine Sq_nil ?_; try refine G_then ?_))
  try any_goals ((refine H_seq ?_; try refine H_reg ?_))
  try any_goals (refine W_assign (d := 13) (sq_stepper hC) rfl rfl rfl ?_)
  try any_goals ((refine Sq_nil ?_; try refine G_then ?_))
  try any_goals (refine H_seq ?_)
  try any_goals ((refine H_seq ?_; try refine H_reg ?_))
  try any_goals (refine W_loadA (d := 16) (sq_stepper hC) (by kernel_rfl) rfl rfl rfl ?_)
  try any_goals (refine W_loadA (d := 17) (sq_stepper hC) (by kernel_rfl) rfl rfl rfl ?_)
  try any_goals (refine W_move (d := 18) (sq_stepper hC) rfl rfl rfl ?_)
  try any_goals (refine W_move (d := 19) (sq_stepper hC) rfl rfl rfl ?_)
  try any_goals (refine W_move (d := 20) (sq_stepper hC) rfl rfl rfl ?_)
  try any_goals (refine W_ct (d := 21) (sq_stepper hC) (ct_choiceDelays _ _ _ _ _ hk hm hcan) rfl rfl rfl (by kernel_rfl) ?_)
  try any_goals (refine W_len (d := 22) (sq_stepper hC) (by kernel_rfl) rfl rfl rfl ?_)
  try any_goals (refine W_move (d := 23) (sq_stepper hC) rfl rfl rfl ?_)
  try any_goals ((refine Sq_nil ?_; try refine G_then ?_))
  try any_goals (refine H_block ?_)
  try any_goals ((refine H_loop (σ := Nat) (fun i => i ≤ t.T.length) (fun i => [(4, .inl (.int .i64 p)), (6, .inr (uP bTab t)), (13, .inl (.int .i64 (coS t (cdL t f B xs c) p i))), (21, .inr (uS (some 3) pI (cdL t f B xs c))), (22, .inl (.int .i64 t.T.length)), (23, .inl (.int .i64 i))]) (fun _ => Ext w) (fun i => t.T.length - i) 0 (Nat.zero_le _) (fun a w h => h.sub (by repeat (first | exact trivial | refine ⟨⟨_, rfl, fun _ _ _ h => h⟩, ?_⟩ | refine ⟨⟨_, rfl, fun v w _ h => (show v = _ from h).trans (congrArg (Value.int .i64) (by first | omega | (dsimp only; omega)))⟩, ?_⟩)) fun _ h => h) (fun i hi => ?_); have hsb : 0 ≤ coS t (cdL t f B xs c) p i ∧ coS t (cdL t f B xs c) p i ≤ 158400 * i := coS_bd (c := c) hk.hv hdb hp (by omega)))
  try any_goals ((refine H_seq ?_; try refine H_reg ?_))
  try any_goals (refine W_cmp (d := 24) (sq_stepper hC) rfl rfl rfl rfl rfl ?_)
  try any_goals ((refine Sq_nil ?_; try refine G_then ?_))
  try any_goals (refine H_seq ?_)
  try any_goals ((refine H_cond _ rfl (fun hq => ?_) (fun hq => Wt.un 0 ?_) <;> (try simp only [hqs, reduceCtorEq] at hq)))
  try any_goals (first | ((have hkb : 0 ≤ coK t (cdL t f B xs c) p i ∧ coK t (cdL t f B xs c) p i ≤ 158400 := coK_bd (c := c) hk.hv hdb hp (by omega); have hst : coS t (cdL t f B xs c) p (i + 1) = coS t (cdL t f B xs c) p i + coK t (cdL t f B xs c) p i := rfl)) | skip)
  try any_goals (skip)
  try any_goals (skip)
  try any_goals (refine H_skip ?_)
  try any_goals (refine G_hold 1 ?_)
  try any_goals (refine Wt.out 0 ?_)
  try any_goals (refine H_exit ?_)
  repeat (any_goals (first | refine G_exit_then ?_ | refine G_exit_here ?_ | refine G_exit_far rfl ?_))
  try any_goals (refine G_hold 2 ?_)
  try any_goals (refine Wt.out 1 ?_)
  try any_goals (refine G_then ?_)
  try any_goals (refine H_seq ?_)
  try any_goals (refine H_block ?_)
  try any_goals ((refine H_seq ?_; try refine H_reg ?_))
  try any_goals (refine W_move (d := 25) (sq_stepper hC) rfl rfl rfl ?_)
  try any_goals (refine W_index (d := 26) (sq_stepper hC) (by kernel_rfl) rfl rfl rfl rfl (by first | omega | (dsimp only; omega)) ?_)
  try any_goals (refine W_loadI (d := 27) (sq_stepper hC) (by kernel_rfl) rfl rfl rfl ?_)
  try any_goals (refine W_assign (d := 14) (sq_stepper hC) rfl rfl rfl ?_)
  try any_goals (refine W_assign (d := 15) (sq_stepper hC) rfl rfl rfl ?_)
  try any_goals ((refine Sq_nil ?_; try refine G_then ?_))
  try any_goals (refine H_seq ?_)
  try any_goals ((refine H_seq ?_; try refine H_reg ?_))
  try any_goals (refine W_move (d := 28) (sq_stepper hC) rfl rfl rfl ?_)
  try any_goals (refine W_cmp (d := 29) (sq_stepper hC) rfl rfl rfl rfl rfl ?_)
  try any_goals ((refine Sq_nil ?_; try refine G_then ?_))
  try any_goals ((refine H_cond _ rfl (fun hq => ?_) (fun hq => Wt.un 3 ?_) <;> (try simp only [hqs, reduceCtorEq] at hq)))
  try any_goals (first | ((have hkb : 0 ≤ coK t (cdL t f B xs c) p i ∧ coK t (cdL t f B xs c) p i ≤ 158400 := coK_bd (c := c) hk.hv hdb hp (by omega); have hst : coS t (cdL t f B xs c) p (i + 1) = coS t (cdL t f B xs c) p i + coK t (cdL t f B xs c) p i := rfl)) | skip)
  try any_goals (first | ((rw [coK_y hq] at hkb hst; unfold trLin at hkb hst)) | skip)
  try any_goals (first | ((rw [coK_n hq] at hkb hst; unfold trLin at hkb hst)) | skip)
  try any_goals (refine H_reg ?_)
  try any_goals (refine W_move (d := 30) (sq_stepper hC) rfl rfl rfl ?_)
  try any_goals (refine W_assign (d := 15) (sq_stepper hC) rfl rfl rfl ?_)
  try any_goals (refine Sq_nil ?_)
  try any_goals (refine G_hold 4 ?_)
  try any_goals (refine Wt.out 3 ?_)
  try any_goals (refine H_skip ?_)
  try any_goals (refine Wt.out 4 ?_)
  try any_goals (refine G_then ?_)
  try any_goals (refine H_draw' (by kernel_rfl) hC ?_)
  try any_goals (refine W_move (d := 31) wk_stepper rfl rfl rfl ?_)
  try any_goals (refine W_move (d := 32) wk_stepper rfl rfl rfl ?_)
  try any_goals (refine W_loadA (d := 33) wk_stepper (by kernel_rfl) rfl rfl rfl ?_)
  try any_goals (refine W_fieldG (d := 34) wk_stepper (Proj.tail _ _ (Proj.head _ _ _)) (by kernel_rfl) rfl rfl rfl ?_)
  try any_goals (refine W_loadS (d := 35) wk_stepper (by kernel_rfl) rfl rfl rfl ?_)
  try any_goals (refine W_move (d := 36) wk_stepper rfl rfl rfl ?_)
  try any_goals (refine W_index (d := 37) wk_stepper (by kernel_rfl) rfl rfl rfl rfl (by first | omega | (dsimp only; omega)) ?_)
  try any_goals (refine W_loadA (d := 38) wk_stepper (by kernel_rfl) rfl rfl rfl ?_)
  try any_goals (refine W_ct (d := 39) wk_stepper (ct_lineOf _ (ix t.T i) (tr_ok hk.hv ⟨by omega, by omega⟩).1) rfl rfl rfl (by kernel_rfl) ?_)
  try any_goals (refine W_fieldVS (d := 40) wk_stepper (Proj.tail _ _ (Proj.head _ _ _)) (by kernel_rfl) rfl rfl rfl ?_)
  try any_goals (refine W_len (d := 41) wk_stepper (by kernel_rfl) rfl rfl rfl ?_)
  try any_goals (refine W_ar (d := 42) wk_stepper rfl rfl rfl rfl rfl (by first | omega | (dsimp only; omega)) ?_)
  try any_goals (refine W_ar (d := 43) wk_stepper rfl rfl rfl rfl rfl (by first | omega | (dsimp only; omega)) ?_)
  try any_goals (refine Wk_assign (by kernel_rfl) (by kernel_rfl) ?_)
  try any_goals (refine W_assign (d := 13) (sq_stepper hC) rfl rfl rfl ?_)
  try any_goals (refine Sq_nil ?_)
  repeat (any_goals (first | refine G_exit_then ?_ | refine G_exit_here ?_ | refine G_exit_far rfl ?_ | refine G_normal_block ?_))
  try any_goals (refine G_then ?_)
  try any_goals (refine H_reg ?_)
  try any_goals (refine W_ar (d := 44) (sq_stepper hC) rfl rfl rfl rfl rfl (by first | omega | (dsimp only; omega)) ?_)
  try any_goals (refine W_move (d := 23) (sq_stepper hC) rfl rfl rfl ?_)
  try any_goals (refine Sq_nil ?_)
  try any_goals (refine G_again (i + 1) (by omega) (by omega) (by repeat (first | exact trivial | refine ⟨⟨_, rfl, fun _ _ _ h => h⟩, ?_⟩ | refine ⟨⟨_, rfl, fun v w _ h => (show v = _ from h).trans (congrArg (Value.int .i64) (by first | omega | (dsimp only; omega)))⟩, ?_⟩)) (fun _ h => h))
  try any_goals (refine Wt.out 2 ?_)
  repeat (any_goals (first | refine G_exit_then ?_ | refine G_exit_here ?_ | refine G_exit_far rfl ?_ | refine G_normal_block ?_))
  try any_goals (refine G_then ?_)
  try any_goals ((refine H_seq ?_; try refine H_reg ?_))
  try any_goals (refine W_move (d := 45) (sq_stepper hC) rfl rfl rfl ?_)
  try any_goals (refine W_assign (d := 12) (sq_stepper hC) rfl rfl rfl ?_)
  try any_goals ((refine Sq_nil ?_; try refine G_then ?_))
  try any_goals (refine H_ret ?_)
  repeat (any_goals (first | refine G_ret_then ?_ | refine G_ret_block ?_))
  all_goals first
    | (exact R1v rfl (fun _ h => h) rfl (by rw [show i = t.T.length by omega]))
    | trace_state
end Go.Proofs.YtkbanalfnhhojaaGreat

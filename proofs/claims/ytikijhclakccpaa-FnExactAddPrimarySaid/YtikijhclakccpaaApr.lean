/- AddPrimary: one primary delay more, in plain terms; the reference's side. -/
import Derived.Test.YtikijhclakccpaaDel
import Derived.Test.YtikijhclakccpaaOwnG
namespace Go.Proofs.Ytikijhclakccpaa
set_option linter.unusedSimpArgs false
set_option linter.unusedVariables false
open Go.RowKit Go.ChangeShapes Go.WideShapes Go.ChangeAt Go.Deep
theorem flDly : Flat pDly := by repeat (first | exact flat_nil | exact flat_I | exact flat_B | refine flat_cat ?_ ?_)
theorem pDly_c {x : Dly} {c : List Value} {w : World} (h : pDly.φ x c w) : c = [.int .i64 x.T, .int .i64 x.M] := by
  obtain ⟨c1, r1, rfl, rfl, c2, r2, rfl, rfl, rfl⟩ := h
  rfl
theorem pDly_i (a b : Int) (w : World) : pDly.φ ⟨a, b⟩ [.int .i64 a, .int .i64 b] w := ⟨[_], _, rfl, rfl, [_], _, rfl, rfl, rfl⟩
theorem hp_DlyM {x : Dly} {n : Int} : ∀ u w c, Pr.ok (.inl (.int .i64 n)) u w → pDly.φ x c w → ∃ vs : List Value, u.cells = vs.toArray ∧ vs.length = 1 ∧ (∀ r ∈ vs, r.oneCell' = true) ∧ pDly.φ ⟨x.T, n⟩ (putL c 1 vs) w := fun u w c hu hc => by
  obtain rfl : u = .int .i64 n := hu
  obtain rfl := pDly_c hc
  exact ⟨[.int .i64 n], rfl, rfl, (fun r hr => by simp at hr; subst hr; rfl), pDly_i _ _ w⟩
/-- One more. -/
def insD (z : Dly) : List Dly → List Dly
  | [] => [z]
  | x :: l => if x.T < z.T then x :: insD z l else if x.T = z.T then ⟨x.T, x.M + z.M⟩ :: l else z :: x :: l
theorem insD_lt {z x : Dly} {l : List Dly} (h : x.T < z.T) : insD z (x :: l) = x :: insD z l := if_pos h
theorem insD_eq {z x : Dly} {l : List Dly} (h : x.T = z.T) : insD z (x :: l) = ⟨x.T, x.M + z.M⟩ :: l := by rw [insD, if_neg (by omega), if_pos h]
theorem insD_gt {z x : Dly} {l : List Dly} (h : z.T < x.T) : insD z (x :: l) = z :: x :: l := by rw [insD, if_neg (by omega), if_neg (by omega)]
theorem insD_len {z : Dly} : ∀ {l : List Dly}, (insD z l).length ≤ l.length + 1
  | [] => Nat.le_refl _
  | x :: l => by
    have := insD_len (z := z) (l := l)
    rw [insD]
    split
    · simp only [List.length_cons]; omega
    · split <;> simp only [List.length_cons] <;> omega
theorem drop_ixD {xs : List Dly} {i : Nat} (h : i < xs.length) : xs.drop i = ix xs (i : Int) :: xs.drop (i + 1) := by
  rw [List.drop_eq_getElem_cons h]
  congr 1
  simp [ix, h]
theorem insD_at {z : Dly} : ∀ {xs : List Dly} {j : Nat}, j ≤ xs.length → (∀ k : Nat, k < j → (ix xs (k : Int)).T < z.T) → insD z xs = xs.take j ++ insD z (xs.drop j)
  | xs, 0, _, _ => rfl
  | [], j + 1, h, _ => by simp at h
  | x :: xs, j + 1, h, hk => by
    have h0 := hk 0 (by omega)
    have e0 : ix (x :: xs) ((0 : Nat) : Int) = x := rfl
    rw [e0] at h0
    rw [insD_lt h0, insD_at (j := j) (by simpa using h) (fun k hk' => by
      have := hk (k + 1) (by omega)
      simpa [ix] using this)]
    rfl
def apI (t : Tab) (xs : List Dly) (z : Dly) : Bool := (tabB t && delsB t xs) && inB z.M 1 240
def apO (t : Tab) (xs : List Dly) (z : Dly) : Bool := apI t xs z && delsB t (insD z xs)
def apR (t : Tab) (xs : List Dly) (z : Dly) : List Dly := if apO t xs z then insD z xs else []
theorem ap_n {t : Tab} {xs : List Dly} {z : Dly} (h : apO t xs z = false) : apR t xs z = [] := by rw [apR, h]; rfl
theorem ap_y {t : Tab} {xs : List Dly} {z : Dly} (h : apO t xs z = true) : apR t xs z = insD z xs := by rw [apR, h]; rfl
theorem apO_t {t : Tab} {xs : List Dly} {z : Dly} : apO t xs z = true ↔ (tabB t = true ∧ delsB t xs = true ∧ (1 ≤ z.M ∧ z.M ≤ 240)) ∧ delsB t (insD z xs) = true := by simp only [apO, apI, Bool.and_eq_true, inB_t, and_assoc]
theorem apO_f {t : Tab} {xs : List Dly} {z : Dly} (h : ¬ ((tabB t = true ∧ delsB t xs = true ∧ (1 ≤ z.M ∧ z.M ≤ 240)) ∧ delsB t (insD z xs) = true)) : apO t xs z = false := by
  cases h' : apO t xs z
  · rfl
  · exact absurd (apO_t.1 h') h
theorem ap_f1 {t : Tab} {xs : List Dly} {z : Dly} (h : tabB t = false ∨ delsB t xs = false ∨ ¬ (1 ≤ z.M ∧ z.M ≤ 240)) : apO t xs z = false := apO_f (by
  rintro ⟨⟨h1, h2, h3⟩, _⟩
  rcases h with h | h | h
  · rw [h1] at h; cases h
  · rw [h2] at h; cases h
  · exact h h3)
theorem ap_f2 {t : Tab} {xs : List Dly} {z : Dly} (h : delsB t (insD z xs) = false) : apO t xs z = false := apO_f (fun hh => by rw [h] at hh; cases hh.2)
theorem ap_y2 {t : Tab} {xs : List Dly} {z : Dly} (h1 : tabB t = true) (h2 : delsB t xs = true) (h3 : 1 ≤ z.M ∧ z.M ≤ 240) (h4 : delsB t (insD z xs) = true) : apO t xs z = true := apO_t.2 ⟨⟨h1, h2, h3⟩, h4⟩
theorem apR_len {t : Tab} {xs : List Dly} {z : Dly} : (apR t xs z).length ≤ xs.length + 1 := by
  unfold apR
  split
  · exact insD_len
  · exact Nat.zero_le _
theorem dels_bd {t : Tab} {xs : List Dly} (h : delsB t xs = true) : ∀ i : Nat, i < xs.length → (1 ≤ (ix xs (i : Int)).M ∧ (ix xs (i : Int)).M ≤ 240) ∧ ((i : Int) = 0 ∨ (ix xs ((i : Int) - 1)).T < (ix xs (i : Int)).T) := fun i hi => by
  have := (allB_t.1 h) i (by omega)
  rw [delAt_t] at this
  exact ⟨this.2.1, this.2.2⟩
/-- What the reference holds after i places. -/
structure ApS (z : Dly) (xs : List Dly) (i : Nat) (l : List Dly) (dn : Bool) : Prop where
  len : l.length + (if dn then 0 else 1) ≤ i + 1
  val : l ++ (if dn then xs.drop i else insD z (xs.drop i)) = insD z xs
  gt : dn = true → 0 < i ∧ z.T ≤ (ix xs ((i : Int) - 1)).T
theorem ApS.zero {z : Dly} {xs : List Dly} : ApS z xs 0 [] false := ⟨Nat.le_refl _, rfl, fun h => by cases h⟩
theorem ix_pred {xs : List Dly} {i : Nat} : ix xs (((i + 1 : Nat) : Int) - 1) = ix xs (i : Int) := by rw [show ((i + 1 : Nat) : Int) - 1 = (i : Int) by omega]
theorem ApS.ins {z : Dly} {xs : List Dly} {i : Nat} {l : List Dly} (h : ApS z xs i l false) (hi : i < xs.length) (hx : z.T < (ix xs (i : Int)).T) : ApS z xs (i + 1) (l ++ [z] ++ [ix xs (i : Int)]) true := by
  have h1 := h.len
  have h2 := h.val
  simp only [Bool.false_eq_true, if_false] at h1 h2
  rw [drop_ixD hi, insD_gt hx] at h2
  refine ⟨by simp only [List.length_append, List.length_cons, List.length_nil, if_true]; omega, ?_, fun _ => ⟨by omega, by rw [ix_pred]; omega⟩⟩
  rw [← h2, if_pos rfl]
  simp
theorem ApS.eq {z : Dly} {xs : List Dly} {i : Nat} {l : List Dly} {dn : Bool} (h : ApS z xs i l dn) (hi : i < xs.length) (hs : (i : Int) = 0 ∨ (ix xs ((i : Int) - 1)).T < (ix xs (i : Int)).T) (hx : (ix xs (i : Int)).T = z.T) : ApS z xs (i + 1) (l ++ [⟨(ix xs (i : Int)).T, (ix xs (i : Int)).M + z.M⟩]) true := by
  cases dn with
  | true => have := h.gt rfl; omega
  | false =>
    have h1 := h.len
    have h2 := h.val
    simp only [Bool.false_eq_true, if_false] at h1 h2
    rw [drop_ixD hi, insD_eq hx] at h2
    refine ⟨by simp only [List.length_append, List.length_cons, List.length_nil, if_true]; omega, ?_, fun _ => ⟨by omega, by rw [ix_pred]; omega⟩⟩
    rw [← h2, if_pos rfl]
    simp
theorem ApS.tk {z : Dly} {xs : List Dly} {i : Nat} {l : List Dly} (h : ApS z xs i l true) (hi : i < xs.length) (hs : (i : Int) = 0 ∨ (ix xs ((i : Int) - 1)).T < (ix xs (i : Int)).T) : ApS z xs (i + 1) (l ++ [ix xs (i : Int)]) true := by
  have h1 := h.len
  have h2 := h.val
  have h3 := h.gt rfl
  simp only [if_true] at h1 h2
  rw [drop_ixD hi] at h2
  refine ⟨by simp only [List.length_append, List.length_cons, List.length_nil, if_true]; omega, ?_, fun _ => ⟨by omega, by rw [ix_pred]; omega⟩⟩
  rw [← h2, if_pos rfl]
  simp
theorem ApS.lt {z : Dly} {xs : List Dly} {i : Nat} {l : List Dly} (h : ApS z xs i l false) (hi : i < xs.length) (hx : (ix xs (i : Int)).T < z.T) : ApS z xs (i + 1) (l ++ [ix xs (i : Int)]) false := by
  have h1 := h.len
  have h2 := h.val
  simp only [Bool.false_eq_true, if_false] at h1 h2
  rw [drop_ixD hi, insD_lt hx] at h2
  refine ⟨by simp only [List.length_append, List.length_cons, List.length_nil, Bool.false_eq_true, if_false]; omega, ?_, fun h => by cases h⟩
  rw [← h2, if_neg (by simp)]
  simp
theorem ApS.fin1 {z : Dly} {xs : List Dly} {l : List Dly} (h : ApS z xs xs.length l true) : l = insD z xs := by
  have h2 := h.val
  rw [if_pos rfl, List.drop_length, List.append_nil] at h2
  exact h2
theorem ApS.fin0 {z : Dly} {xs : List Dly} {l : List Dly} (h : ApS z xs xs.length l false) : l ++ [z] = insD z xs := by
  have h2 := h.val
  rw [if_neg (by simp), List.drop_length] at h2
  exact h2
theorem ct_sAp {e : Option TypeId} (t : Tab) (xs : List Dly) (z : Dly) (hxl : xs.length ≤ 1048576) : CT Try.prog 39 [.inr (uA bTab t), .inr (uS e pDly xs), .inr (uA pDly z)] (.inr (uT [.inr (uS (some 84) pDly (apR t xs z)), .inl (.bool (apO t xs z))])) := by
  refine CT_of Try.func39 rfl rfl rfl (fun w => ?_)
  have hC := upC_ext w
  try any_goals (first | (refine H_seq ?_; try refine H_reg ?_) | refine H_reg ?_)
  try any_goals (refine W_boxA (d := 3) (sq_stepper hC) rfl rfl rfl ?_)
  try any_goals (refine W_boxA (d := 5) (sq_stepper hC) rfl rfl rfl ?_)
  try any_goals (refine W_assign (d := 6) (sq_stepper hC) rfl rfl rfl ?_)
  try any_goals (refine W_assign (d := 7) (sq_stepper hC) rfl rfl rfl ?_)
  try any_goals (first | (refine Sq_nil ?_; try refine G_then ?_) | refine G_then ?_)
  try any_goals (refine H_seq ?_)
  try any_goals (have hE : Ext _ _ := Ext.refl w)
  try any_goals (refine H_open 3 rfl (fun q u3 hw hr3 => ?_); have hE := hE.trans hw)
  try any_goals (refine H_open 1 rfl (fun q u1 hw hr1 => ?_); have hE := hE.trans hw; have hr3 := UR.lift hw hr3)
  try any_goals (refine H_open 5 rfl (fun q u5 hw hr5 => ?_); have hE := hE.trans hw; have hr3 := UR.lift hw hr3; have hr1 := UR.lift hw hr1)
  try any_goals (refine H_weakenC (C' := Sep q []) (fun w' h => sep_start h) ?_; have hC : UpC (Sep q []) := upC_sep)
  try any_goals (refine H_reg ?_)
  try any_goals (refine Sq_buildS (d := 12) [] pDly [] (e := 84) (by kernel_rfl) (by kernel_rfl) rfl rfl (by kernel_rfl) rfl rfl trivial rfl (fun v8 => ?_))
  try any_goals (refine W_assign (d := 8) (sq_stepper upC_sep) rfl rfl rfl ?_)
  try any_goals (first | (refine Sq_nil ?_; try refine G_then ?_) | refine G_then ?_)
  try any_goals (refine H_seq ?_)
  try any_goals (first | (refine H_seq ?_; try refine H_reg ?_) | refine H_reg ?_)
  try any_goals (first | refine W_loadUP (d := 13) (sq_stepper upC_sep) (fun w' h => UR.lift (Sep.ext h) hr3) (by kernel_rfl) rfl rfl rfl ?_ | refine W_loadUP (d := 13) (sq_stepper upC_sep) (fun w' h => UR.lift (Sep.ext h) hr5) (by kernel_rfl) rfl rfl rfl ?_ | refine W_loadA (d := 13) (sq_stepper upC_sep) (by kernel_rfl) rfl rfl rfl ?_)
  try any_goals (first | refine W_ct (d := 14) (sq_stepper upC_sep) (ct_l5Good _) rfl rfl rfl (by kernel_rfl) ?_ | refine W_lenR (d := 14) (sq_stepper upC_sep) (xs := xs) (fun w' h => IsS.up (Sep.ext h) hr1) (by kernel_rfl) rfl rfl rfl ?_)
  try any_goals (refine W_not (d := 15) (sq_stepper upC_sep) rfl rfl rfl ?_)
  try any_goals (refine W_move (d := 16) (sq_stepper upC_sep) rfl rfl rfl ?_)
  try any_goals (first | refine W_gT (d := 17) (sq_stepper upC_sep) _ rfl rfl ?_ | refine W_gF (d := 17) (sq_stepper upC_sep) _ rfl rfl ?_ | (refine W_splitG (sq_stepper upC_sep) _ rfl _ rfl (fun hq => ?_) (fun hq => ?_) <;> ((try simp only [hqs, reduceCtorEq] at hq); try (have hq' := hq; clear hq))))
  try any_goals (first | refine W_skip (d := 17) (sq_stepper upC_sep) rfl rfl ?_ | refine W_loadUP (d := 17) (sq_stepper upC_sep) (fun w' h => UR.lift (Sep.ext h) hr3) (by kernel_rfl) rfl rfl rfl ?_ | refine W_loadUP (d := 17) (sq_stepper upC_sep) (fun w' h => UR.lift (Sep.ext h) hr5) (by kernel_rfl) rfl rfl rfl ?_ | refine W_loadA (d := 17) (sq_stepper upC_sep) (by kernel_rfl) rfl rfl rfl ?_)
  try any_goals (first | refine W_skip (d := 18) (sq_stepper upC_sep) rfl rfl ?_ | refine W_moveR (d := 18) (sq_stepper upC_sep) (U := uS e pDly xs) (fun w' h => UR.lift (Sep.ext h) hr1) rfl rfl rfl ?_ | refine W_move (d := 18) (sq_stepper upC_sep) rfl rfl rfl ?_)
  try any_goals (first | refine W_skip (d := 19) (sq_stepper upC_sep) rfl rfl ?_ | refine W_ct (d := 19) (sq_stepper upC_sep) (ct_l17List _ _ (by assumption)) rfl rfl rfl (by kernel_rfl) ?_ | refine W_lenR (d := 19) (sq_stepper upC_sep) (xs := xs) (fun w' h => IsS.up (Sep.ext h) hr1) (by kernel_rfl) rfl rfl rfl ?_)
  try any_goals (first | refine W_skip (d := 20) (sq_stepper upC_sep) rfl rfl ?_ | refine W_not (d := 20) (sq_stepper upC_sep) rfl rfl rfl ?_)
  try any_goals (first | refine W_pickT (d := 21) (sq_stepper upC_sep) rfl rfl rfl rfl ?_ | refine W_pickF (d := 21) (sq_stepper upC_sep) rfl rfl rfl rfl ?_)
  try any_goals (refine W_move (d := 22) (sq_stepper upC_sep) rfl rfl rfl ?_)
  try any_goals (first | refine W_gT (d := 23) (sq_stepper upC_sep) _ rfl rfl ?_ | refine W_gF (d := 23) (sq_stepper upC_sep) _ rfl rfl ?_ | (refine W_splitG (sq_stepper upC_sep) _ rfl _ rfl (fun hq => ?_) (fun hq => ?_) <;> ((try simp only [hqs, reduceCtorEq] at hq); try (have hq' := hq; clear hq))))
  try any_goals (first | refine W_skip (d := 23) (sq_stepper upC_sep) rfl rfl ?_ | refine W_fieldG (d := 23) (sq_stepper upC_sep) (Proj.tail _ _ (Proj.head _ _ _)) (by kernel_rfl) rfl rfl rfl ?_ | refine W_fieldUP (d := 23) (sq_stepper upC_sep) (fun w' h => UR.lift (Sep.ext h) hr3) (Proj.tail _ _ (Proj.head _ _ _)) (by kernel_rfl) rfl rfl rfl ?_ | refine W_fieldUP (d := 23) (sq_stepper upC_sep) (fun w' h => UR.lift (Sep.ext h) hr5) (Proj.tail _ _ (Proj.head _ _ _)) (by kernel_rfl) rfl rfl rfl ?_ | refine W_fieldS (d := 23) 0 (off := 1) (sq_stepper upC_sep) rfl (by first | omega | (simp; done) | (simp; omega)) (by kernel_rfl) rfl rfl rfl ?_ | refine W_fieldC (d := 23) (sq_stepper upC_sep) (off := 1) (by kernel_rfl) rfl rfl rfl ?_)
  try any_goals (first | refine W_skip (d := 24) (sq_stepper upC_sep) rfl rfl ?_ | refine W_loadI (d := 24) (sq_stepper upC_sep) (by kernel_rfl) rfl rfl rfl ?_)
  try any_goals (first | refine W_skip (d := 25) (sq_stepper upC_sep) rfl rfl ?_ | refine W_ct (d := 25) (sq_stepper upC_sep) (ct_l1In _ _ _) rfl rfl rfl (by kernel_rfl) ?_ | refine W_lenR (d := 25) (sq_stepper upC_sep) (xs := xs) (fun w' h => IsS.up (Sep.ext h) hr1) (by kernel_rfl) rfl rfl rfl ?_)
  try any_goals (first | refine W_skip (d := 26) (sq_stepper upC_sep) rfl rfl ?_ | refine W_not (d := 26) (sq_stepper upC_sep) rfl rfl rfl ?_)
  try any_goals (first | refine W_pickT (d := 27) (sq_stepper upC_sep) rfl rfl rfl rfl ?_ | refine W_pickF (d := 27) (sq_stepper upC_sep) rfl rfl rfl rfl ?_)
  try any_goals (first | (refine Sq_nil ?_; try refine G_then ?_) | refine G_then ?_)
  try any_goals (first | refine H_condT rfl ?_ | refine H_condF rfl ?_ | (refine H_cond _ rfl (fun hq => ?_) (fun hq => ?_) <;> (try simp only [hqs, reduceCtorEq] at hq)))
  try any_goals (first | ((have hdb := dels_bd (by assumption) i (by omega))) | skip)
  try any_goals (first | (refine H_seq ?_; try refine H_reg ?_) | refine H_reg ?_)
  try any_goals (refine W_move (d := 28) (sq_stepper upC_sep) rfl rfl rfl ?_)
  try any_goals (refine W_assign (d := 6) (sq_stepper upC_sep) rfl rfl rfl ?_)
  try any_goals (refine W_assign (d := 7) (sq_stepper upC_sep) rfl rfl rfl ?_)
  try any_goals (first | (refine Sq_nil ?_; try refine G_then ?_) | refine G_then ?_)
  try any_goals (refine H_ret ?_)
  repeat (any_goals (first | refine G_ret_then ?_ | refine G_ret_block ?_))
  try any_goals (refine H_skip ?_)
  try any_goals (refine G_then ?_)
  try any_goals (first | (refine H_seq ?_; try refine H_reg ?_) | refine H_reg ?_)
  try any_goals (refine W_assign (d := 9) (sq_stepper upC_sep) rfl rfl rfl ?_)
  try any_goals (first | (refine Sq_nil ?_; try refine G_then ?_) | refine G_then ?_)
  try any_goals (refine H_seq ?_)
  try any_goals (first | (refine H_seq ?_; try refine H_reg ?_) | refine H_reg ?_)
  try any_goals (refine W_assign (d := 10) (sq_stepper upC_sep) rfl rfl rfl ?_)
  try any_goals (first | (refine Sq_nil ?_; try refine G_then ?_) | refine G_then ?_)
  try any_goals (refine H_block ?_)
  try any_goals ((refine H_loop (σ := Nat × List Dly × Bool × Value) (fun x => x.1 ≤ xs.length ∧ ApS z xs x.1 x.2.1 x.2.2.1) (fun x => [(1, .inl u1), (3, .inl u3), (5, .inl u5), (8, .inl x.2.2.2), (9, .inl (.bool x.2.2.1)), (10, .inl (.int .i64 x.1))]) (fun x => Sep q [.sl Dly 84 pDly x.2.1 x.2.2.2]) (fun x => xs.length - x.1) (0, [], false, v8) ⟨Nat.zero_le _, ApS.zero⟩ (fun a w' h => h.sub (by repeat (first | exact trivial | refine ⟨⟨_, rfl, fun _ _ _ h => h⟩, ?_⟩ | refine ⟨⟨_, rfl, fun v w _ h => (show v = _ from h).trans (congrArg (Value.int .i64) (by first | omega | (dsimp only; omega)))⟩, ?_⟩)) (fun w' h => h)) (fun x hi => ?_); obtain ⟨i, l, dn, v8⟩ := x; obtain ⟨hi, hap⟩ := hi; simp only at hi hap; have hal := hap.len; cases dn))
  try any_goals (refine H_seq ?_)
  try any_goals (first | (refine H_seq ?_; try refine H_reg ?_) | refine H_reg ?_)
  try any_goals (refine W_move (d := 29) (sq_stepper upC_sep) rfl rfl rfl ?_)
  try any_goals (first | refine W_moveR (d := 30) (sq_stepper upC_sep) (U := uS e pDly xs) (fun w' h => UR.lift (Sep.ext h) hr1) rfl rfl rfl ?_ | refine W_move (d := 30) (sq_stepper upC_sep) rfl rfl rfl ?_)
  try any_goals (first | refine W_lenS (d := 31) 0 (sq_stepper upC_sep) rfl (by kernel_rfl) rfl rfl rfl ?_ | refine W_len (d := 31) (sq_stepper upC_sep) (by kernel_rfl) rfl rfl rfl ?_ | refine W_lenStr (d := 31) (sq_stepper upC_sep) (by kernel_rfl) rfl rfl rfl ?_ | refine W_lenR (d := 31) (sq_stepper upC_sep) (xs := xs) (fun w' h => IsS.up (Sep.ext h) hr1) (by kernel_rfl) rfl rfl rfl ?_)
  try any_goals (first | refine W_cmp (d := 32) (sq_stepper upC_sep) rfl rfl rfl rfl rfl ?_ | refine W_strcmp (d := 32) (sq_stepper upC_sep) rfl rfl rfl rfl rfl ?_)
  try any_goals (first | (refine Sq_nil ?_; try refine G_then ?_) | refine G_then ?_)
  try any_goals (first | refine H_condT rfl ?_ | refine H_condF rfl ?_ | (refine H_cond _ rfl (fun hq => ?_) (fun hq => ?_) <;> (try simp only [hqs, reduceCtorEq] at hq)))
  try any_goals (first | ((have hdb := dels_bd (by assumption) i (by omega))) | skip)
  try any_goals (refine H_skip ?_)
  try any_goals (refine H_exit ?_)
  repeat (any_goals (first | refine G_exit_then ?_ | refine G_exit_here ?_ | refine G_exit_far rfl ?_))
  try any_goals (refine G_then ?_)
  try any_goals (refine H_seq ?_)
  try any_goals (refine H_block ?_)
  try any_goals (first | (refine H_seq ?_; try refine H_reg ?_) | refine H_reg ?_)
  try any_goals (first | refine W_moveR (d := 35) (sq_stepper upC_sep) (U := uS e pDly xs) (fun w' h => UR.lift (Sep.ext h) hr1) rfl rfl rfl ?_ | refine W_move (d := 35) (sq_stepper upC_sep) rfl rfl rfl ?_)
  try any_goals (refine W_move (d := 36) (sq_stepper upC_sep) rfl rfl rfl ?_)
  try any_goals (first | refine W_idxS (d := 37) 0 (sq_stepper upC_sep) rfl (by kernel_rfl) rfl rfl rfl rfl (by first | omega | (simp; done) | (simp; omega)) ?_ | refine W_index (d := 37) (sq_stepper upC_sep) (by kernel_rfl) rfl rfl rfl rfl (by first | omega | (dsimp only; omega)) ?_ | refine W_indexR (d := 37) (sq_stepper upC_sep) (xs := xs) (fun w' h => IsS.up (Sep.ext h) hr1) (by kernel_rfl) rfl rfl rfl rfl (by first | omega | (dsimp only; omega)) ?_)
  try any_goals (first | refine W_loadUP (d := 38) (sq_stepper upC_sep) (fun w' h => UR.lift (Sep.ext h) hr3) (by kernel_rfl) rfl rfl rfl ?_ | refine W_loadUP (d := 38) (sq_stepper upC_sep) (fun w' h => UR.lift (Sep.ext h) hr5) (by kernel_rfl) rfl rfl rfl ?_ | refine W_loadA (d := 38) (sq_stepper upC_sep) (by kernel_rfl) rfl rfl rfl ?_)
  try any_goals (refine Sq_allocL (d := 11) pDly default [.int .i64 0, .int .i64 0] (by kernel_rfl) (fun w => pDly_i 0 0 w) (by kernel_rfl) rfl (fun v11 => ?_))
  try any_goals ((refine Sq_storeO1 0 (n := 2) (ix xs i) rfl ⟨⟨trivial, trivial, trivial⟩, ⟨trivial, trivial, trivial⟩, trivial⟩ rfl (by kernel_rfl) (Nat.le_refl _) rfl rfl hp_A ?_))
  try any_goals (first | (refine Sq_nil ?_; try refine G_then ?_) | refine G_then ?_)
  try any_goals (refine H_seq ?_)
  try any_goals (first | (refine H_seq ?_; try refine H_reg ?_) | refine H_reg ?_)
  try any_goals (first | refine W_fieldG (d := 39) (sq_stepper upC_sep) (Proj.head _ _ _) (by kernel_rfl) rfl rfl rfl ?_ | refine W_fieldUP (d := 39) (sq_stepper upC_sep) (fun w' h => UR.lift (Sep.ext h) hr3) (Proj.head _ _ _) (by kernel_rfl) rfl rfl rfl ?_ | refine W_fieldUP (d := 39) (sq_stepper upC_sep) (fun w' h => UR.lift (Sep.ext h) hr5) (Proj.head _ _ _) (by kernel_rfl) rfl rfl rfl ?_ | refine W_fieldS (d := 39) 0 (off := 0) (sq_stepper upC_sep) rfl (by first | omega | (simp; done) | (simp; omega)) (by kernel_rfl) rfl rfl rfl ?_ | refine W_fieldC (d := 39) (sq_stepper upC_sep) (off := 0) (by kernel_rfl) rfl rfl rfl ?_)
  try any_goals (refine W_load1 (d := 40) 0 (sq_stepper upC_sep) (t := 3) (Θ := pI) (q := Dly.T) _ rfl (Proj.head _ _ _) mk_I rfl (by kernel_rfl) rfl rfl rfl ?_)
  try any_goals (first | refine W_fieldG (d := 41) (sq_stepper upC_sep) (Proj.head _ _ _) (by kernel_rfl) rfl rfl rfl ?_ | refine W_fieldUP (d := 41) (sq_stepper upC_sep) (fun w' h => UR.lift (Sep.ext h) hr3) (Proj.head _ _ _) (by kernel_rfl) rfl rfl rfl ?_ | refine W_fieldUP (d := 41) (sq_stepper upC_sep) (fun w' h => UR.lift (Sep.ext h) hr5) (Proj.head _ _ _) (by kernel_rfl) rfl rfl rfl ?_ | refine W_fieldS (d := 41) 0 (off := 0) (sq_stepper upC_sep) rfl (by first | omega | (simp; done) | (simp; omega)) (by kernel_rfl) rfl rfl rfl ?_ | refine W_fieldC (d := 41) (sq_stepper upC_sep) (off := 0) (by kernel_rfl) rfl rfl rfl ?_)
  try any_goals (refine W_loadI (d := 42) (sq_stepper upC_sep) (by kernel_rfl) rfl rfl rfl ?_)
  try any_goals (first | refine W_cmp (d := 43) (sq_stepper upC_sep) rfl rfl rfl rfl rfl ?_ | refine W_strcmp (d := 43) (sq_stepper upC_sep) rfl rfl rfl rfl rfl ?_)
  try any_goals (refine W_move (d := 44) (sq_stepper upC_sep) rfl rfl rfl ?_)
  try any_goals (first | refine W_gT (d := 45) (sq_stepper upC_sep) _ rfl rfl ?_ | refine W_gF (d := 45) (sq_stepper upC_sep) _ rfl rfl ?_ | (refine W_splitG (sq_stepper upC_sep) _ rfl _ rfl (fun hq => ?_) (fun hq => ?_) <;> ((try simp only [hqs, reduceCtorEq] at hq); try (have hq' := hq; clear hq))))
  try any_goals (first | refine W_skip (d := 45) (sq_stepper upC_sep) rfl rfl ?_ | refine W_move (d := 45) (sq_stepper upC_sep) rfl rfl rfl ?_)
  try any_goals (first | refine W_skip (d := 46) (sq_stepper upC_sep) rfl rfl ?_ | refine W_not (d := 46) (sq_stepper upC_sep) rfl rfl rfl ?_)
  try any_goals (first | refine W_pickT (d := 47) (sq_stepper upC_sep) rfl rfl rfl rfl ?_ | refine W_pickF (d := 47) (sq_stepper upC_sep) rfl rfl rfl rfl ?_)
  try any_goals (first | (refine Sq_nil ?_; try refine G_then ?_) | refine G_then ?_)
  try any_goals (first | refine H_condT rfl ?_ | refine H_condF rfl ?_ | (refine H_cond _ rfl (fun hq => ?_) (fun hq => ?_) <;> (try simp only [hqs, reduceCtorEq] at hq)))
  try any_goals (first | ((have hdb := dels_bd (by assumption) i (by omega))) | skip)
  try any_goals (first | (refine H_seq ?_; try refine H_reg ?_) | refine H_reg ?_)
  try any_goals (refine W_move (d := 48) (sq_stepper upC_sep) rfl rfl rfl ?_)
  try any_goals (first | refine W_loadUP (d := 49) (sq_stepper upC_sep) (fun w' h => UR.lift (Sep.ext h) hr3) (by kernel_rfl) rfl rfl rfl ?_ | refine W_loadUP (d := 49) (sq_stepper upC_sep) (fun w' h => UR.lift (Sep.ext h) hr5) (by kernel_rfl) rfl rfl rfl ?_ | refine W_loadA (d := 49) (sq_stepper upC_sep) (by kernel_rfl) rfl rfl rfl ?_)
  try any_goals (first | refine W_buildS (d := 50) (sq_stepper upC_sep) [(Operand.tmp 49)] pDly [_] (e := 84) (by kernel_rfl) (by kernel_rfl) rfl rfl (by kernel_rfl) rfl rfl rfl ⟨elem_A, trivial⟩ ?_ | refine W_buildS (d := 50) (sq_stepper upC_sep) [(Operand.tmp 49)] pI [_] (e := 84) (by kernel_rfl) (by kernel_rfl) rfl rfl (by kernel_rfl) rfl rfl rfl ⟨elem_I, trivial⟩ ?_)
  try any_goals ((refine Sq_appS (d := 51) 1 (Ψ := pDly) (xs := l) rfl ⟨⟨trivial, trivial, trivial⟩, ⟨trivial, trivial, trivial⟩, trivial⟩ (by kernel_rfl) (by kernel_rfl) rfl rfl rfl ⟨by simp only [List.length_cons, List.length_nil]; omega, by simp⟩ (fun va => ?_)))
  try any_goals (refine W_assign (d := 8) (sq_stepper upC_sep) rfl rfl rfl ?_)
  try any_goals (first | (refine Sq_nil ?_; try refine G_then ?_) | refine G_then ?_)
  try any_goals (refine H_reg ?_)
  try any_goals (refine W_assign (d := 9) (sq_stepper upC_sep) rfl rfl rfl ?_)
  try any_goals (refine Sq_nil ?_)
  try any_goals (refine H_skip ?_)
  try any_goals (refine G_then ?_)
  try any_goals (refine H_seq ?_)
  try any_goals (first | (refine H_seq ?_; try refine H_reg ?_) | refine H_reg ?_)
  try any_goals (first | refine W_fieldG (d := 52) (sq_stepper upC_sep) (Proj.head _ _ _) (by kernel_rfl) rfl rfl rfl ?_ | refine W_fieldUP (d := 52) (sq_stepper upC_sep) (fun w' h => UR.lift (Sep.ext h) hr3) (Proj.head _ _ _) (by kernel_rfl) rfl rfl rfl ?_ | refine W_fieldUP (d := 52) (sq_stepper upC_sep) (fun w' h => UR.lift (Sep.ext h) hr5) (Proj.head _ _ _) (by kernel_rfl) rfl rfl rfl ?_ | refine W_fieldS (d := 52) 0 (off := 0) (sq_stepper upC_sep) rfl (by first | omega | (simp; done) | (simp; omega)) (by kernel_rfl) rfl rfl rfl ?_ | refine W_fieldC (d := 52) (sq_stepper upC_sep) (off := 0) (by kernel_rfl) rfl rfl rfl ?_)
  try any_goals (refine W_load1 (d := 53) 0 (sq_stepper upC_sep) (t := 3) (Θ := pI) (q := Dly.T) _ rfl (Proj.head _ _ _) mk_I rfl (by kernel_rfl) rfl rfl rfl ?_)
  try any_goals (first | refine W_fieldG (d := 54) (sq_stepper upC_sep) (Proj.head _ _ _) (by kernel_rfl) rfl rfl rfl ?_ | refine W_fieldUP (d := 54) (sq_stepper upC_sep) (fun w' h => UR.lift (Sep.ext h) hr3) (Proj.head _ _ _) (by kernel_rfl) rfl rfl rfl ?_ | refine W_fieldUP (d := 54) (sq_stepper upC_sep) (fun w' h => UR.lift (Sep.ext h) hr5) (Proj.head _ _ _) (by kernel_rfl) rfl rfl rfl ?_ | refine W_fieldS (d := 54) 0 (off := 0) (sq_stepper upC_sep) rfl (by first | omega | (simp; done) | (simp; omega)) (by kernel_rfl) rfl rfl rfl ?_ | refine W_fieldC (d := 54) (sq_stepper upC_sep) (off := 0) (by kernel_rfl) rfl rfl rfl ?_)
  try any_goals (refine W_loadI (d := 55) (sq_stepper upC_sep) (by kernel_rfl) rfl rfl rfl ?_)
  try any_goals (first | refine W_cmp (d := 56) (sq_stepper upC_sep) rfl rfl rfl rfl rfl ?_ | refine W_eqlStr (d := 56) (sq_stepper upC_sep) rfl rfl rfl rfl ?_ | refine W_eqlB (d := 56) (sq_stepper upC_sep) rfl rfl Try.underlying4 rfl rfl ?_)
  try any_goals (first | (refine Sq_nil ?_; try refine G_then ?_) | refine G_then ?_)
  try any_goals (first | refine H_condT rfl ?_ | refine H_condF rfl ?_ | (refine H_cond _ rfl (fun hq => ?_) (fun hq => ?_) <;> (try simp only [hqs, reduceCtorEq] at hq)))
  try any_goals (first | ((have hdb := dels_bd (by assumption) i (by omega))) | skip)
  try any_goals (first | (refine H_seq ?_; try refine H_reg ?_) | refine H_reg ?_)
  try any_goals (first | refine W_fieldG (d := 57) (sq_stepper upC_sep) (Proj.tail _ _ (Proj.head _ _ _)) (by kernel_rfl) rfl rfl rfl ?_ | refine W_fieldUP (d := 57) (sq_stepper upC_sep) (fun w' h => UR.lift (Sep.ext h) hr3) (Proj.tail _ _ (Proj.head _ _ _)) (by kernel_rfl) rfl rfl rfl ?_ | refine W_fieldUP (d := 57) (sq_stepper upC_sep) (fun w' h => UR.lift (Sep.ext h) hr5) (Proj.tail _ _ (Proj.head _ _ _)) (by kernel_rfl) rfl rfl rfl ?_ | refine W_fieldS (d := 57) 0 (off := 1) (sq_stepper upC_sep) rfl (by first | omega | (simp; done) | (simp; omega)) (by kernel_rfl) rfl rfl rfl ?_ | refine W_fieldC (d := 57) (sq_stepper upC_sep) (off := 1) (by kernel_rfl) rfl rfl rfl ?_)
  try any_goals (refine W_load1 (d := 58) 0 (sq_stepper upC_sep) (t := 3) (Θ := pI) (q := Dly.M) _ rfl (Proj.tail _ _ (Proj.head _ _ _)) mk_I rfl (by kernel_rfl) rfl rfl rfl ?_)
  try any_goals (first | refine W_fieldG (d := 59) (sq_stepper upC_sep) (Proj.tail _ _ (Proj.head _ _ _)) (by kernel_rfl) rfl rfl rfl ?_ | refine W_fieldUP (d := 59) (sq_stepper upC_sep) (fun w' h => UR.lift (Sep.ext h) hr3) (Proj.tail _ _ (Proj.head _ _ _)) (by kernel_rfl) rfl rfl rfl ?_ | refine W_fieldUP (d := 59) (sq_stepper upC_sep) (fun w' h => UR.lift (Sep.ext h) hr5) (Proj.tail _ _ (Proj.head _ _ _)) (by kernel_rfl) rfl rfl rfl ?_ | refine W_fieldS (d := 59) 0 (off := 1) (sq_stepper upC_sep) rfl (by first | omega | (simp; done) | (simp; omega)) (by kernel_rfl) rfl rfl rfl ?_ | refine W_fieldC (d := 59) (sq_stepper upC_sep) (off := 1) (by kernel_rfl) rfl rfl rfl ?_)
  try any_goals (refine W_loadI (d := 60) (sq_stepper upC_sep) (by kernel_rfl) rfl rfl rfl ?_)
  try any_goals (refine W_ar (d := 61) (sq_stepper upC_sep) rfl rfl rfl rfl rfl (by first | omega | (dsimp only; omega)) ?_)
  try any_goals (first | refine W_fieldG (d := 62) (sq_stepper upC_sep) (Proj.tail _ _ (Proj.head _ _ _)) (by kernel_rfl) rfl rfl rfl ?_ | refine W_fieldUP (d := 62) (sq_stepper upC_sep) (fun w' h => UR.lift (Sep.ext h) hr3) (Proj.tail _ _ (Proj.head _ _ _)) (by kernel_rfl) rfl rfl rfl ?_ | refine W_fieldUP (d := 62) (sq_stepper upC_sep) (fun w' h => UR.lift (Sep.ext h) hr5) (Proj.tail _ _ (Proj.head _ _ _)) (by kernel_rfl) rfl rfl rfl ?_ | refine W_fieldS (d := 62) 0 (off := 1) (sq_stepper upC_sep) rfl (by first | omega | (simp; done) | (simp; omega)) (by kernel_rfl) rfl rfl rfl ?_ | refine W_fieldC (d := 62) (sq_stepper upC_sep) (off := 1) (by kernel_rfl) rfl rfl rfl ?_)
  try any_goals ((refine Sq_storeO1 0 (n := 1) (off := 1) ⟨(ix xs i).T, (ix xs i).M + z.M⟩ rfl ⟨⟨trivial, trivial, trivial⟩, ⟨trivial, trivial, trivial⟩, trivial⟩ rfl (by kernel_rfl) (by decide) rfl rfl hp_DlyM ?_))
  try any_goals (first | (refine Sq_nil ?_; try refine G_then ?_) | refine G_then ?_)
  try any_goals (refine H_reg ?_)
  try any_goals (refine W_assign (d := 9) (sq_stepper upC_sep) rfl rfl rfl ?_)
  try any_goals (refine Sq_nil ?_)
  try any_goals (refine H_skip ?_)
  try any_goals (refine G_then ?_)
  try any_goals (refine H_reg ?_)
  try any_goals (refine W_move (d := 63) (sq_stepper upC_sep) rfl rfl rfl ?_)
  try any_goals (refine W_load1A (d := 64) 0 (sq_stepper upC_sep) (t := 84) rfl rfl (by kernel_rfl) rfl rfl rfl ?_)
  try any_goals (first | refine W_buildS (d := 65) (sq_stepper upC_sep) [(Operand.tmp 64)] pDly [_] (e := 84) (by kernel_rfl) (by kernel_rfl) rfl rfl (by kernel_rfl) rfl rfl rfl ⟨elem_A, trivial⟩ ?_ | refine W_buildS (d := 65) (sq_stepper upC_sep) [(Operand.tmp 64)] pI [_] (e := 84) (by kernel_rfl) (by kernel_rfl) rfl rfl (by kernel_rfl) rfl rfl rfl ⟨elem_I, trivial⟩ ?_)
  try any_goals ((refine Sq_appS (d := 66) 1 (Ψ := pDly) rfl ⟨⟨trivial, trivial, trivial⟩, ⟨trivial, trivial, trivial⟩, trivial⟩ (by kernel_rfl) (by kernel_rfl) rfl rfl rfl ⟨by simp only [List.length_append, List.length_cons, List.length_nil]; omega, by simp⟩ (fun vb => ?_)))
  try any_goals (refine W_assign (d := 8) (sq_stepper upC_sep) rfl rfl rfl ?_)
  try any_goals (refine Sq_nil ?_)
  repeat (any_goals (first | refine G_exit_then ?_ | refine G_exit_here ?_ | refine G_exit_far rfl ?_ | refine G_normal_block ?_))
  try any_goals (refine G_then ?_)
  try any_goals (refine H_reg ?_)
  try any_goals (refine W_move (d := 33) (sq_stepper upC_sep) rfl rfl rfl ?_)
  try any_goals (refine W_ar (d := 34) (sq_stepper upC_sep) rfl rfl rfl rfl rfl (by first | omega | (dsimp only; omega)) ?_)
  try any_goals (refine W_assign (d := 10) (sq_stepper upC_sep) rfl rfl rfl ?_)
  try any_goals (refine Sq_nil ?_)
  try any_goals (first | (exfalso; omega) | exact G_again (i + 1, l ++ [z] ++ [ix xs i], true, vb) ⟨by simp only; omega, hap.ins (by omega) (by omega)⟩ (by simp only; omega) (by repeat (first | exact trivial | refine ⟨⟨_, rfl, fun _ _ _ h => h⟩, ?_⟩ | refine ⟨⟨_, rfl, fun v w _ h => (show v = _ from h).trans (congrArg (Value.int .i64) (by first | omega | (dsimp only; omega)))⟩, ?_⟩)) (fun w' h => h.drop) | exact G_again (i + 1, l ++ [(⟨(ix xs i).T, (ix xs i).M + z.M⟩ : Dly)], true, vb) ⟨by simp only; omega, hap.eq (by omega) hdb.2 (by omega)⟩ (by simp only; omega) (by repeat (first | exact trivial | refine ⟨⟨_, rfl, fun _ _ _ h => h⟩, ?_⟩ | refine ⟨⟨_, rfl, fun v w _ h => (show v = _ from h).trans (congrArg (Value.int .i64) (by first | omega | (dsimp only; omega)))⟩, ?_⟩)) (fun w' h => h.drop) | exact G_again (i + 1, l ++ [ix xs i], true, vb) ⟨by simp only; omega, hap.tk (by omega) hdb.2⟩ (by simp only; omega) (by repeat (first | exact trivial | refine ⟨⟨_, rfl, fun _ _ _ h => h⟩, ?_⟩ | refine ⟨⟨_, rfl, fun v w _ h => (show v = _ from h).trans (congrArg (Value.int .i64) (by first | omega | (dsimp only; omega)))⟩, ?_⟩)) (fun w' h => h.drop) | exact G_again (i + 1, l ++ [ix xs i], false, vb) ⟨by simp only; omega, hap.lt (by omega) (by omega)⟩ (by simp only; omega) (by repeat (first | exact trivial | refine ⟨⟨_, rfl, fun _ _ _ h => h⟩, ?_⟩ | refine ⟨⟨_, rfl, fun v w _ h => (show v = _ from h).trans (congrArg (Value.int .i64) (by first | omega | (dsimp only; omega)))⟩, ?_⟩)) (fun w' h => h.drop))
  repeat (any_goals (first | refine G_exit_then ?_ | refine G_exit_here ?_ | refine G_exit_far rfl ?_ | refine G_normal_block ?_))
  try any_goals (refine G_then ?_)
  try any_goals (refine H_seq ?_)
  try any_goals (first | (refine H_seq ?_; try refine H_reg ?_) | refine H_reg ?_)
  try any_goals (refine W_move (d := 67) (sq_stepper upC_sep) rfl rfl rfl ?_)
  try any_goals (refine W_not (d := 68) (sq_stepper upC_sep) rfl rfl rfl ?_)
  try any_goals (first | (refine Sq_nil ?_; try refine G_then ?_) | refine G_then ?_)
  try any_goals (first | refine H_condT rfl ?_ | refine H_condF rfl ?_ | (refine H_cond _ rfl (fun hq => ?_) (fun hq => ?_) <;> (try simp only [hqs, reduceCtorEq] at hq)))
  try any_goals (first | ((have hdb := dels_bd (by assumption) i (by omega))) | skip)
  try any_goals (refine H_reg ?_)
  try any_goals (refine W_move (d := 69) (sq_stepper upC_sep) rfl rfl rfl ?_)
  try any_goals (first | refine W_loadUP (d := 70) (sq_stepper upC_sep) (fun w' h => UR.lift (Sep.ext h) hr3) (by kernel_rfl) rfl rfl rfl ?_ | refine W_loadUP (d := 70) (sq_stepper upC_sep) (fun w' h => UR.lift (Sep.ext h) hr5) (by kernel_rfl) rfl rfl rfl ?_ | refine W_loadA (d := 70) (sq_stepper upC_sep) (by kernel_rfl) rfl rfl rfl ?_)
  try any_goals (first | refine W_buildS (d := 71) (sq_stepper upC_sep) [(Operand.tmp 70)] pDly [_] (e := 84) (by kernel_rfl) (by kernel_rfl) rfl rfl (by kernel_rfl) rfl rfl rfl ⟨elem_A, trivial⟩ ?_ | refine W_buildS (d := 71) (sq_stepper upC_sep) [(Operand.tmp 70)] pI [_] (e := 84) (by kernel_rfl) (by kernel_rfl) rfl rfl (by kernel_rfl) rfl rfl rfl ⟨elem_I, trivial⟩ ?_)
  try any_goals ((refine Sq_appS (d := 72) 0 (Ψ := pDly) (xs := l) rfl ⟨⟨trivial, trivial, trivial⟩, trivial⟩ (by kernel_rfl) (by kernel_rfl) rfl rfl rfl ⟨by simp only [List.length_cons, List.length_nil]; omega, by simp⟩ (fun vc => ?_)))
  try any_goals (refine W_assign (d := 8) (sq_stepper upC_sep) rfl rfl rfl ?_)
  try any_goals (refine Sq_nil ?_)
  try any_goals (refine H_skip ?_)
  try any_goals (refine G_then ?_)
  try any_goals (refine H_seq ?_)
  try any_goals (first | (refine H_seq ?_; try refine H_reg ?_) | refine H_reg ?_)
  try any_goals (first | refine W_loadUP (d := 73) (sq_stepper upC_sep) (fun w' h => UR.lift (Sep.ext h) hr3) (by kernel_rfl) rfl rfl rfl ?_ | refine W_loadUP (d := 73) (sq_stepper upC_sep) (fun w' h => UR.lift (Sep.ext h) hr5) (by kernel_rfl) rfl rfl rfl ?_ | refine W_loadA (d := 73) (sq_stepper upC_sep) (by kernel_rfl) rfl rfl rfl ?_)
  try any_goals (refine W_move (d := 74) (sq_stepper upC_sep) rfl rfl rfl ?_)
  try any_goals (first | (refine Sq_recall 74 (U := uS (some 84) pDly _) (fun w' h => Sep.isS (m := 0) h rfl) rfl ?_; refine W_ct (d := 75) (sq_stepper upC_sep) (ct_l17List _ _ (by assumption)) rfl rfl rfl (by kernel_rfl) ?_) | refine W_lenR (d := 75) (sq_stepper upC_sep) (xs := xs) (fun w' h => IsS.up (Sep.ext h) hr1) (by kernel_rfl) rfl rfl rfl ?_)
  try any_goals (refine W_not (d := 76) (sq_stepper upC_sep) rfl rfl rfl ?_)
  try any_goals (first | (refine Sq_nil ?_; try refine G_then ?_) | refine G_then ?_)
  try any_goals (first | refine H_condT rfl ?_ | refine H_condF rfl ?_ | (refine H_cond _ rfl (fun hq => ?_) (fun hq => ?_) <;> (try simp only [hqs, reduceCtorEq] at hq)))
  try any_goals (first | ((have hdb := dels_bd (by assumption) i (by omega))) | skip)
  try any_goals (first | (refine H_seq ?_; try refine H_reg ?_) | refine H_reg ?_)
  try any_goals (refine Sq_buildS (d := 77) [] pDly [] (e := 84) (by kernel_rfl) (by kernel_rfl) rfl rfl (by kernel_rfl) rfl rfl trivial rfl (fun v9 => ?_))
  try any_goals (refine W_assign (d := 6) (sq_stepper upC_sep) rfl rfl rfl ?_)
  try any_goals (refine W_assign (d := 7) (sq_stepper upC_sep) rfl rfl rfl ?_)
  try any_goals (first | (refine Sq_nil ?_; try refine G_then ?_) | refine G_then ?_)
  try any_goals (refine H_ret ?_)
  repeat (any_goals (first | refine G_ret_then ?_ | refine G_ret_block ?_))
  try any_goals (refine H_skip ?_)
  try any_goals (refine G_then ?_)
  try any_goals (first | (refine H_seq ?_; try refine H_reg ?_) | refine H_reg ?_)
  try any_goals (refine W_move (d := 78) (sq_stepper upC_sep) rfl rfl rfl ?_)
  try any_goals (refine W_assign (d := 6) (sq_stepper upC_sep) rfl rfl rfl ?_)
  try any_goals (refine W_assign (d := 7) (sq_stepper upC_sep) rfl rfl rfl ?_)
  try any_goals (first | (refine Sq_nil ?_; try refine G_then ?_) | refine G_then ?_)
  try any_goals (refine H_ret ?_)
  repeat (any_goals (first | refine G_ret_then ?_ | refine G_ret_block ?_))
  all_goals (try dsimp only at *)
  all_goals first
    | (have h0 : tabB t = false ∨ delsB t xs = false ∨ ¬ (1 ≤ z.M ∧ z.M ≤ 240) := by first | exact .inl (by assumption) | exact .inr (.inl (by assumption)) | exact .inr (.inr (by omega))
       have h2 := ap_f1 h0
       have h1 := ap_n h2
       exact R2 rfl (fun _ h => hE.trans h.ext) rfl rfl (fun v w' hc hv => by rw [h1, show v = _ from hv]; exact hc.isS (m := 0) rfl) (fun v w' _ hv => by rw [h2]; exact hv))
    | (have hq0 := hq
       have hie : i = xs.length := by omega
       subst hie
       have hl := hap.fin0
       rw [hl] at hq0
       have h2 : apO t xs z = true := ap_y2 (by assumption) (by assumption) (by omega) hq0
       have h1 := ap_y h2
       exact R2 rfl (fun _ h => hE.trans h.ext) rfl rfl (fun v w' hc hv => by rw [h1, ← hl, show v = _ from hv]; exact hc.isS (m := 0) rfl) (fun v w' _ hv => by rw [h2]; exact hv))
    | (have hq0 := hq
       have hie : i = xs.length := by omega
       subst hie
       have hl := hap.fin0
       rw [hl] at hq0
       have h2 := ap_f2 hq0
       have h1 := ap_n h2
       exact R2 rfl (fun _ h => hE.trans h.ext) rfl rfl (fun v w' hc hv => by rw [h1, show v = _ from hv]; exact hc.isS (m := 0) rfl) (fun v w' _ hv => by rw [h2]; exact hv))
    | (have hq0 := hq
       have hie : i = xs.length := by omega
       subst hie
       have hl := hap.fin1
       rw [hl] at hq0
       have h2 : apO t xs z = true := ap_y2 (by assumption) (by assumption) (by omega) hq0
       have h1 := ap_y h2
       exact R2 rfl (fun _ h => hE.trans h.ext) rfl rfl (fun v w' hc hv => by rw [h1, ← hl, show v = _ from hv]; exact hc.isS (m := 0) rfl) (fun v w' _ hv => by rw [h2]; exact hv))
    | (have hq0 := hq
       have hie : i = xs.length := by omega
       subst hie
       have hl := hap.fin1
       rw [hl] at hq0
       have h2 := ap_f2 hq0
       have h1 := ap_n h2
       exact R2 rfl (fun _ h => hE.trans h.ext) rfl rfl (fun v w' hc hv => by rw [h1, show v = _ from hv]; exact hc.isS (m := 0) rfl) (fun v w' _ hv => by rw [h2]; exact hv))
    | trace_state
end Go.Proofs.Ytikijhclakccpaa

/- Lists of lists of numbers whose rows are blocks of their own, no two alike: marked with numbers in order, and read again. -/
import Derived.Test.YtanlaggnhocjhaaOwnG
namespace Go.Proofs.Ytanlaggnhocjhaa
set_option linter.unusedSimpArgs false
set_option linter.unusedVariables false
open Go.RowKit Go.ChangeShapes Go.WideShapes Go.ChangeAt Go.Deep
/-- The outer list by the rows' values, each row for itself. -/
structure RowsO (ls : List (List Int)) (vs : List Value) (S0 : Nat → Prop) (Sr : Nat → Nat → Prop) (v : Value) (w : World) : Prop where
  o : OS 39 pV vs S0 v w
  l : vs.length = ls.length
  r : ∀ i : Nat, i < ls.length → OS 3 pI (ix ls i) (Sr i) (ix vs i) w
def RowsS (S S0 : Nat → Prop) (Sr : Nat → Nat → Prop) : Prop := (∀ b, S0 b → S b) ∧ (∀ i b, Sr i b → S b ∧ ¬ S0 b) ∧ ∀ i j b, i ≠ j → Sr i b → ¬ Sr j b
theorem RowsO.keep {ls : List (List Int)} {vs : List Value} {S0 T : Nat → Prop} {Sr : Nat → Nat → Prop} {v : Value} {w w' : World} (h : RowsO ls vs S0 Sr v w) (hk : Keep T w w') (h0 : ∀ b, S0 b → T b → False) (h1 : ∀ i b, Sr i b → T b → False) : RowsO ls vs S0 Sr v w' :=
  ⟨(oF _ pV flat_V).keep _ _ _ _ _ _ h.o hk h0, h.l, fun i hi => (oF _ pI flat_I).keep _ _ _ _ _ _ (h.r i hi) hk (h1 i)⟩
def oR : Ow (List (List Int)) := ⟨fun ls S v w => ∃ vs S0 Sr, RowsO ls vs S0 Sr v w ∧ RowsS S S0 Sr, fun ls S T v w w' ⟨vs, S0, Sr, h, hS⟩ hk hd => ⟨vs, S0, Sr, h.keep hk (fun b hb ht => hd b (hS.1 b hb) ht) (fun i b hb ht => hd b (hS.2.1 i b hb).1 ht), hS⟩⟩
theorem RowsO.isS {ls : List (List Int)} {vs : List Value} {S0 : Nat → Prop} {Sr : Nat → Nat → Prop} {v : Value} {w : World} (h : RowsO ls vs S0 Sr v w) : IsS (some 39) (pS (some 3) pI) ls v w :=
  isS_rows h.l.symm h.o.isS fun i hi => (h.r i hi).isS
theorem oR_isS {ls : List (List Int)} {S : Nat → Prop} {v : Value} {w : World} (h : oR.R ls S v w) : IsS (some 39) (pS (some 3) pI) ls v w := by
  obtain ⟨vs, S0, Sr, h, _⟩ := h
  exact h.isS
theorem nil_oR {s : Nat} {w : World} : (uO s oR []).R (.slice none 0 0) w :=
  ⟨fun _ => False, fun _ h => h.elim, [], fun _ => False, fun _ _ => False, ⟨⟨none, 0, 0, [], ⟨_, rfl, .inl rfl⟩, rfl, Nat.le_refl _, Nat.zero_le _, by simp, rfl, (fun g e => by cases e), (fun _ => rfl), ls_nil⟩, rfl, fun i hi => by simp at hi⟩, fun _ h => h, fun _ _ h => h.elim, fun _ _ _ _ h => h.elim⟩
/-- The number that a row begins with. -/
def kAt (k : Int) (ls : List (List Int)) : Nat → Int
  | 0 => k
  | i + 1 => kAt k ls i + (ix ls i).length
def mixR (k : Int) (ls : List (List Int)) (i : Nat) : List (List Int) := (List.range ls.length).map fun j => if j < i then numL numIntS 1 (kAt k ls j) (ix ls j).length else ix ls j
def numR (k : Int) (ls : List (List Int)) : List (List Int) := mixR k ls ls.length
theorem mixR_len {k : Int} {ls : List (List Int)} {i : Nat} : (mixR k ls i).length = ls.length := by simp [mixR]
theorem mixR_at {k : Int} {ls : List (List Int)} {i j : Nat} (h : j < ls.length) : ix (mixR k ls i) j = if j < i then numL numIntS 1 (kAt k ls j) (ix ls j).length else ix ls j := by
  simp [mixR, ix, h]
theorem mixR_0 {k : Int} {ls : List (List Int)} : mixR k ls 0 = ls := by
  apply List.ext_getElem?
  intro j
  simp only [mixR, List.getElem?_map]
  by_cases h : j < ls.length
  · rw [List.getElem?_range h]
    simp [ix, h]
  · rw [List.getElem?_eq_none (by simp; omega), List.getElem?_eq_none (by omega)]
    rfl
theorem kAt_bd {k : Int} {ls : List (List Int)} {c : Int} (h : ∀ i : Nat, i < ls.length → ((ix ls i).length : Int) ≤ c) : ∀ {i : Nat}, i ≤ ls.length → k ≤ kAt k ls i ∧ kAt k ls i ≤ k + c * i
  | 0, _ => by simp [kAt]
  | i + 1, hi => by
    have h1 := kAt_bd (k := k) h (i := i) (by omega)
    have h2 := h i (by omega)
    rw [kAt]
    have : c * ((i + 1 : Nat) : Int) = c * i + c := by rw [Int.natCast_add, Int.mul_add]; simp
    omega
section
variable {P : Program} {ops : Array Oper} {C : World → Prop} {N : Nat} {M : List (Nat × Pr) → List Oper → Prop} {K : List (Nat × Pr)} {rest : List Oper} {d : Nat} {ty : TypeId} {pos : String} {af : Array Edge} {g : Option (Nat × Bool)}
theorem W_loadPV (hM : Stepper P ops C N M) {x : Operand} {t : TypeId} {z : Value} (hB : scalarB P t = true) (hg : wantedK ops K g = some true) (hN : Nat.blt d N = true) (hx : kn K x = some (.inr (uP pV z)))
    (h : M ((d, .inl z) :: K) rest) : M K (⟨some d, .load t x, ty, pos, af, g⟩ :: rest) :=
  W_val hM hN hg (fun ρ w hc hk => by
    obtain ⟨b, o, c, hv, h2, h3⟩ := hk x (by simp [Op.operands]) _ hx
    have e : c = [z] := h3.1
    subst e
    exact run_load1 hB hv (by have := h2 0 _ rfl; simpa using this)) h
end
theorem mk_Rows (ls : List (List Int)) (k : Int) (hk : 0 ≤ k ∧ ls.length ≤ 1048576 ∧ k ≤ 4611686018427) (hr : ∀ i : Nat, i < ls.length → ((ix ls i).length : Int) ≤ 1048576) : MK Try.prog 39 oR ls k (numR k ls) (kAt k ls ls.length) := by
  unfold MK
  intro w v S ⟨vs, S0, Sr, h, hS⟩
  have hvl := h.l
  have hkb := fun i (hi : i ≤ ls.length) => kAt_bd (k := k) hr hi
  let D : Nat → World → Prop := fun i w' => Keep S w w' ∧ RowsO (mixR k ls i) vs S0 Sr v w'
  have hD : ∀ i, UpC (D i) := fun i _ _ h he => ⟨upC_keep _ _ h.1 he, h.2.keep (T := fun _ => False) (Keep.of_ext he) (fun _ _ h => h) (fun _ _ _ h => h)⟩
  have hrow : ∀ i, i < ls.length → CTX Try.prog 16 (D i) [.inl (ix vs i), .inl (.int .i64 (kAt k ls i))] (fun _ : Unit => D (i + 1)) (fun _ => .inl (.int .i64 (kAt k ls (i + 1)))) := by
    intro i hi w1 args hd hargs
    match args, hargs with
    | [a0, a1], ⟨ha0, ha1, _⟩ =>
      obtain rfl : a0 = _ := ha0
      obtain rfl : a1 = _ := ha1
      have hb := hkb i (by omega)
      have hri := hr i hi
      have h0 := hd.2.r i (by rw [mixR_len]; exact hi)
      rw [mixR_at hi, if_neg (by omega)] at h0
      have hmul : (1048576 : Int) * i ≤ 1048576 * 1048576 := Int.mul_le_mul_of_nonneg_left (by omega) (by omega)
      have hm := mk_IntS (ix ls i) (kAt k ls i) ⟨by omega, by omega⟩
      unfold MK at hm
      refine (hm w1 (ix vs i) (Sr i) h0).mono fun e w2 ⟨he, hk2, h2⟩ => ⟨_, he, (), ⟨hd.1.trans (hk2.mono fun b hb => (hS.2.1 i b hb).1), ?_⟩, by rw [kAt, Int.one_mul]; rfl⟩
      refine ⟨(oF _ pV flat_V).keep _ _ _ _ _ _ hd.2.o hk2 (fun b hb ht => (hS.2.1 i b ht).2 hb), by rw [mixR_len]; exact hvl, fun j hj => ?_⟩
      rw [mixR_len] at hj
      by_cases e : j = i
      · subst e
        rw [mixR_at hj, if_pos (by omega)]
        exact h2
      · have := (oF _ pI flat_I).keep _ _ _ _ _ _ (hd.2.r j (by rw [mixR_len]; exact hj)) hk2 (fun b hb ht => hS.2.2 j i b e hb ht)
        rw [mixR_at hj] at this ⊢
        by_cases hji : j < i
        · rw [if_pos hji] at this; rw [if_pos (by omega)]; exact this
        · rw [if_neg hji] at this; rw [if_neg (by omega)]; exact this
  have key : CTX Try.prog 39 (fun u => u = w) [.inl v, .inl (.int .i64 k)] (fun _ : Unit => D ls.length) (fun _ => .inl (.int .i64 (kAt k ls ls.length))) := by
    refine CTX_of Try.func39 rfl rfl rfl ?_
    refine H_weakenC (C' := D 0) (fun u hu => by subst hu; exact ⟨Keep.refl _, by rw [mixR_0]; exact h⟩) ?_
    have hC := hD 0
    try any_goals (first | (refine H_seq ?_; try refine H_reg ?_) | refine H_reg ?_)
    try any_goals (refine W_assign (d := 4) (sq_stepper hC) rfl rfl rfl ?_)
    try any_goals (first | (refine Sq_nil ?_; try refine G_then ?_) | refine G_then ?_)
    try any_goals (refine H_seq ?_)
    try any_goals (first | (refine H_seq ?_; try refine H_reg ?_) | refine H_reg ?_)
    try any_goals (refine W_assign (d := 5) (sq_stepper hC) rfl rfl rfl ?_)
    try any_goals (first | (refine Sq_nil ?_; try refine G_then ?_) | refine G_then ?_)
    try any_goals (refine H_block ?_)
    try any_goals ((refine H_loop (σ := Nat) (fun i => i ≤ ls.length) (fun i => [(0, .inl v), (1, .inl (.int .i64 (kAt k ls i))), (5, .inl (.int .i64 i))]) (fun i => D i) (fun i => ls.length - i) 0 (Nat.zero_le _) (fun a w' h => h.sub (by repeat (first | exact trivial | refine ⟨⟨_, rfl, fun _ _ _ h => h⟩, ?_⟩ | refine ⟨⟨_, rfl, fun v w _ h => (show v = _ from h).trans (congrArg (Value.int .i64) (by first | omega | (dsimp only; omega)))⟩, ?_⟩)) (fun w' h => h)) (fun i hi => ?_); have hC := hD i))
    try any_goals (refine H_seq ?_)
    try any_goals (first | (refine H_seq ?_; try refine H_reg ?_) | refine H_reg ?_)
    try any_goals (refine W_move (d := 6) (sq_stepper hC) rfl rfl rfl ?_)
    try any_goals (refine W_move (d := 7) (sq_stepper hC) rfl rfl rfl ?_)
    try any_goals (first | refine W_len (d := 8) (sq_stepper hC) (by kernel_rfl) rfl rfl rfl ?_ | refine W_lenStr (d := 8) (sq_stepper hC) (by kernel_rfl) rfl rfl rfl ?_ | refine W_lenR (d := 8) (sq_stepper hC) (xs := vs) (fun w' h => OS.isS h.2.o) (by kernel_rfl) rfl rfl rfl ?_)
    try any_goals (first | refine W_cmp (d := 9) (sq_stepper hC) rfl rfl rfl rfl rfl ?_ | refine W_strcmp (d := 9) (sq_stepper hC) rfl rfl rfl rfl rfl ?_)
    try any_goals (first | (refine Sq_nil ?_; try refine G_then ?_) | refine G_then ?_)
    try any_goals (first | refine H_condT rfl ?_ | refine H_condF rfl ?_ | (refine H_cond _ rfl (fun hq => ?_) (fun hq => ?_) <;> (try simp only [hqs, reduceCtorEq] at hq)))
    try any_goals (refine H_skip ?_)
    try any_goals (refine H_exit ?_)
    repeat (any_goals (first | refine G_exit_then ?_ | refine G_exit_here ?_ | refine G_exit_far rfl ?_))
    try any_goals (refine G_then ?_)
    try any_goals (refine H_seq ?_)
    try any_goals (refine H_block ?_)
    try any_goals (refine H_reg ?_)
    try any_goals (refine W_move (d := 12) (sq_stepper hC) rfl rfl rfl ?_)
    try any_goals (refine W_move (d := 13) (sq_stepper hC) rfl rfl rfl ?_)
    try any_goals (first | refine W_index (d := 14) (sq_stepper hC) (by kernel_rfl) rfl rfl rfl rfl (by first | omega | (dsimp only; omega)) ?_ | refine W_indexR (d := 14) (sq_stepper hC) (xs := vs) (fun w' h => OS.isS h.2.o) (by kernel_rfl) rfl rfl rfl rfl (by omega) ?_)
    try any_goals (first | refine W_loadPV (d := 15) (sq_stepper hC) (by kernel_rfl) rfl rfl rfl ?_ | refine W_loadS (d := 15) (sq_stepper hC) (by kernel_rfl) rfl rfl rfl ?_)
    try any_goals (refine W_move (d := 16) (sq_stepper hC) rfl rfl rfl ?_)
    try any_goals (first | (refine Sq_ctx (hrow i (by omega)) rfl rfl (by kernel_rfl) (fun _ => ?_); have hC := hD (i + 1)) | refine W_lenR (d := 17) (sq_stepper hC) (xs := vs) (fun w' h => OS.isS h.2.o) (by kernel_rfl) rfl rfl rfl ?_)
    try any_goals (refine W_assign (d := 1) (sq_stepper hC) rfl rfl rfl ?_)
    try any_goals (refine Sq_nil ?_)
    repeat (any_goals (first | refine G_exit_then ?_ | refine G_exit_here ?_ | refine G_exit_far rfl ?_ | refine G_normal_block ?_))
    try any_goals (refine G_then ?_)
    try any_goals (refine H_reg ?_)
    try any_goals (refine W_move (d := 10) (sq_stepper hC) rfl rfl rfl ?_)
    try any_goals (refine W_ar (d := 11) (sq_stepper hC) rfl rfl rfl rfl rfl (by first | omega | (dsimp only; omega)) ?_)
    try any_goals (refine W_assign (d := 5) (sq_stepper hC) rfl rfl rfl ?_)
    try any_goals (refine Sq_nil ?_)
    try any_goals (refine G_again (i + 1) (by omega) (by omega) (by repeat (first | exact trivial | refine ⟨⟨_, rfl, fun _ _ _ h => h⟩, ?_⟩ | refine ⟨⟨_, rfl, fun v w _ h => (show v = _ from h).trans (congrArg (Value.int .i64) (by first | omega | (dsimp only; omega)))⟩, ?_⟩)) (fun w' h => h))
    repeat (any_goals (first | refine G_exit_then ?_ | refine G_exit_here ?_ | refine G_exit_far rfl ?_ | refine G_normal_block ?_))
    try any_goals (refine G_then ?_)
    try any_goals (first | (refine H_seq ?_; try refine H_reg ?_) | refine H_reg ?_)
    try any_goals (refine W_move (d := 18) (sq_stepper hC) rfl rfl rfl ?_)
    try any_goals (refine W_assign (d := 4) (sq_stepper hC) rfl rfl rfl ?_)
    try any_goals (first | (refine Sq_nil ?_; try refine G_then ?_) | refine G_then ?_)
    try any_goals (refine H_ret ?_)
    repeat (any_goals (first | refine G_ret_then ?_ | refine G_ret_block ?_))
    all_goals first
      | (obtain rfl : i = ls.length := by omega
         exact RX1 rfl rfl (fun v w' hc hv => ⟨(), hc, hv⟩))
      | trace_state
  exact (key w [v, .int .i64 k] rfl ⟨rfl, rfl, trivial⟩).mono fun e w' ⟨u, he, _, hd, hu⟩ => ⟨by rw [he, show u = _ from hu], hd.1, vs, S0, Sr, hd.2, hS⟩
theorem hd_Rows {e : Option TypeId} (ls : List (List Int)) (k : Int) (hk : 0 ≤ k ∧ ls.length ≤ 1048576 ∧ k ≤ 4611686018427) (hr : ∀ i : Nat, i < ls.length → ((ix ls i).length : Int) ≤ 1048576) : CT Try.prog 41 [.inr (uS e (pS (some 3) pI) (numR k ls)), .inl (.int .i64 k)] (.inl (.int .i64 (kAt k ls ls.length))) := by
  have hkb := fun i (hi : i ≤ ls.length) => kAt_bd (k := k) hr hi
  have hnl : (numR k ls).length = ls.length := mixR_len
  have hrow : ∀ i, i < ls.length → CT Try.prog 17 [.inr (uS (some 3) pI (ix (numR k ls) i)), .inl (.int .i64 (kAt k ls i))] (.inl (.int .i64 (kAt k ls (i + 1)))) := by
    intro i hi
    have hb := hkb i (by omega)
    have hri := hr i hi
    have hmul : (1048576 : Int) * i ≤ 1048576 * 1048576 := Int.mul_le_mul_of_nonneg_left (by omega) (by omega)
    rw [numR, mixR_at hi, if_pos hi]
    have := hd_IntS (e := some 3) (kAt k ls i) (ix ls i).length ⟨by omega, by omega⟩
    rw [Int.one_mul] at this
    exact this
  refine CT_of Try.func41 rfl rfl rfl (fun w => ?_)
  have hC := upC_ext w
  try any_goals (first | (refine H_seq ?_; try refine H_reg ?_) | refine H_reg ?_)
  try any_goals (refine W_assign (d := 4) (sq_stepper hC) rfl rfl rfl ?_)
  try any_goals (first | (refine Sq_nil ?_; try refine G_then ?_) | refine G_then ?_)
  try any_goals (refine H_seq ?_)
  try any_goals (first | (refine H_seq ?_; try refine H_reg ?_) | refine H_reg ?_)
  try any_goals (refine W_assign (d := 5) (sq_stepper hC) rfl rfl rfl ?_)
  try any_goals (first | (refine Sq_nil ?_; try refine G_then ?_) | refine G_then ?_)
  try any_goals (refine H_block ?_)
  try any_goals ((refine H_loop (σ := Nat) (fun i => i ≤ ls.length) (fun i => [(0, .inr (uS e (pS (some 3) pI) (numR k ls))), (1, .inl (.int .i64 (kAt k ls i))), (5, .inl (.int .i64 i))]) (fun _ => Ext w) (fun i => ls.length - i) 0 (Nat.zero_le _) (fun a w' h => h.sub (by repeat (first | exact trivial | refine ⟨⟨_, rfl, fun _ _ _ h => h⟩, ?_⟩ | refine ⟨⟨_, rfl, fun v w _ h => (show v = _ from h).trans (congrArg (Value.int .i64) (by first | omega | (dsimp only; omega)))⟩, ?_⟩)) (fun w' h => h)) (fun i hi => ?_)))
  try any_goals (refine H_seq ?_)
  try any_goals (first | (refine H_seq ?_; try refine H_reg ?_) | refine H_reg ?_)
  try any_goals (refine W_move (d := 6) (sq_stepper hC) rfl rfl rfl ?_)
  try any_goals (refine W_move (d := 7) (sq_stepper hC) rfl rfl rfl ?_)
  try any_goals (first | refine W_len (d := 8) (sq_stepper hC) (by kernel_rfl) rfl rfl rfl ?_ | refine W_lenStr (d := 8) (sq_stepper hC) (by kernel_rfl) rfl rfl rfl ?_)
  try any_goals (first | refine W_cmp (d := 9) (sq_stepper hC) rfl rfl rfl rfl rfl ?_ | refine W_strcmp (d := 9) (sq_stepper hC) rfl rfl rfl rfl rfl ?_)
  try any_goals (first | (refine Sq_nil ?_; try refine G_then ?_) | refine G_then ?_)
  try any_goals (first | refine H_condT rfl ?_ | refine H_condF rfl (Wt.un 0 ?_) | (refine H_cond _ rfl (fun hq => ?_) (fun hq => Wt.un 0 ?_) <;> (try simp only [hqs, reduceCtorEq] at hq)))
  try any_goals (first | ((have hb2 := hkb (i + 1) (by omega); exfalso; omega)) | skip)
  try any_goals (refine H_skip ?_)
  try any_goals (refine G_hold 1 ?_)
  try any_goals (refine Wt.out 0 ?_)
  try any_goals (refine H_exit ?_)
  repeat (any_goals (first | refine G_exit_then ?_ | refine G_exit_here ?_ | refine G_exit_far rfl ?_))
  try any_goals (refine G_hold 2 ?_)
  try any_goals (refine Wt.out 1 ?_)
  try any_goals (refine G_then ?_)
  try any_goals (refine H_seq ?_)
  try any_goals (refine H_block ?_)
  try any_goals (first | (refine H_seq ?_; try refine H_reg ?_) | refine H_reg ?_)
  try any_goals (refine W_move (d := 12) (sq_stepper hC) rfl rfl rfl ?_)
  try any_goals (refine W_move (d := 13) (sq_stepper hC) rfl rfl rfl ?_)
  try any_goals (refine W_index (d := 14) (sq_stepper hC) (by kernel_rfl) rfl rfl rfl rfl (by first | omega | (dsimp only; omega)) ?_)
  try any_goals (refine W_loadS (d := 15) (sq_stepper hC) (by kernel_rfl) rfl rfl rfl ?_)
  try any_goals (refine W_move (d := 16) (sq_stepper hC) rfl rfl rfl ?_)
  try any_goals (refine W_ct (d := 17) (sq_stepper hC) (hrow i (by omega)) rfl rfl rfl (by kernel_rfl) ?_)
  try any_goals (refine W_assign (d := 1) (sq_stepper hC) rfl rfl rfl ?_)
  try any_goals (first | (refine Sq_nil ?_; try refine G_then ?_) | refine G_then ?_)
  try any_goals (first | (refine H_seq ?_; try refine H_reg ?_) | refine H_reg ?_)
  try any_goals (refine W_move (d := 18) (sq_stepper hC) rfl rfl rfl ?_)
  try any_goals (first | refine W_cmp (d := 19) (sq_stepper hC) rfl rfl rfl rfl rfl ?_ | refine W_strcmp (d := 19) (sq_stepper hC) rfl rfl rfl rfl rfl ?_)
  try any_goals (first | (refine Sq_nil ?_; try refine G_then ?_) | refine G_then ?_)
  try any_goals (first | refine H_condT rfl ?_ | refine H_condF rfl (Wt.un 3 ?_) | (refine H_cond _ rfl (fun hq => ?_) (fun hq => Wt.un 3 ?_) <;> (try simp only [hqs, reduceCtorEq] at hq)))
  try any_goals (first | ((have hb2 := hkb (i + 1) (by omega); exfalso; omega)) | skip)
  try any_goals (first | (refine H_seq ?_; try refine H_reg ?_) | refine H_reg ?_)
  try any_goals (refine W_assign (d := 4) (sq_stepper hC) rfl rfl rfl ?_)
  try any_goals (first | (refine Sq_nil ?_; try refine G_then ?_) | refine G_then ?_)
  try any_goals (refine H_ret ?_)
  repeat (any_goals (first | refine G_ret_then ?_ | refine G_ret_block ?_))
  try any_goals (refine G_hold 4 ?_)
  try any_goals (refine Wt.out 3 ?_)
  try any_goals (refine H_skip ?_)
  try any_goals (refine Wt.out 4 ?_)
  repeat (any_goals (first | refine G_exit_then ?_ | refine G_exit_here ?_ | refine G_exit_far rfl ?_ | refine G_normal_block ?_))
  try any_goals (refine G_then ?_)
  try any_goals (refine H_reg ?_)
  try any_goals (refine W_move (d := 10) (sq_stepper hC) rfl rfl rfl ?_)
  try any_goals (refine W_ar (d := 11) (sq_stepper hC) rfl rfl rfl rfl rfl (by first | omega | (dsimp only; omega)) ?_)
  try any_goals (refine W_assign (d := 5) (sq_stepper hC) rfl rfl rfl ?_)
  try any_goals (refine Sq_nil ?_)
  try any_goals (refine G_again (i + 1) (by omega) (by omega) (by repeat (first | exact trivial | refine ⟨⟨_, rfl, fun _ _ _ h => h⟩, ?_⟩ | refine ⟨⟨_, rfl, fun v w _ h => (show v = _ from h).trans (congrArg (Value.int .i64) (by first | omega | (dsimp only; omega)))⟩, ?_⟩)) (fun w' h => h))
  try any_goals (refine Wt.out 2 ?_)
  repeat (any_goals (first | refine G_exit_then ?_ | refine G_exit_here ?_ | refine G_exit_far rfl ?_ | refine G_normal_block ?_))
  try any_goals (refine G_then ?_)
  try any_goals (first | (refine H_seq ?_; try refine H_reg ?_) | refine H_reg ?_)
  try any_goals (refine W_move (d := 20) (sq_stepper hC) rfl rfl rfl ?_)
  try any_goals (refine W_assign (d := 4) (sq_stepper hC) rfl rfl rfl ?_)
  try any_goals (first | (refine Sq_nil ?_; try refine G_then ?_) | refine G_then ?_)
  try any_goals (refine H_ret ?_)
  repeat (any_goals (first | refine G_ret_then ?_ | refine G_ret_block ?_))
  all_goals first
    | (obtain rfl : i = ls.length := by omega
       exact R1v rfl (fun _ h => h) rfl rfl)
    | trace_state
theorem at_OS {α : Type} {e : TypeId} {Ψ : Phi α} {xs : List α} {v : Value} {x : Option Nat × TypeId × List Value} {S : Nat → Prop} {w : World} (h : Osl.at (.sl α e Ψ xs v) x w) (hb : BlkO w x) (hS : ∀ g, x.1 = some g → S g) : OS e Ψ xs S v w := by
  obtain ⟨A, e', cs⟩ := x
  obtain ⟨c, h1, h2, h3, h4, h5, h6, h7⟩ := h
  simp only at h1 h2 h5 h6 h7 hS
  subst h1
  exact ⟨A, _, c, cs, h2, rfl, h3, h4, h5, hb, hS, h6, h7⟩
/-- What the memory of one's own gives away. -/
theorem Sep.oR {w0 w : World} {L : List Osl} {s m n : Nat} {ls : List (List Int)} {vs : List Value} {v : Value} (h : Sep w0 L w) (hs : s ≤ w0.heap.size) (hm : L[m]? = some (.sl Value 39 pV vs v)) (hmn : m < n) (hl : vs.length = ls.length)
    (hr : ∀ i : Nat, i < ls.length → L[n + i]? = some (.sl Int 3 pI (ix ls i) (ix vs i))) : (uO s Go.Proofs.Ytanlaggnhocjhaa.oR ls).R v w := by
  unfold Sep at h
  obtain ⟨Bs, hbl, hc⟩ := h
  have hget : ∀ {j : Nat} {o : Osl}, L[j]? = some o → ∃ x, Bs[j]? = some x ∧ o.at x w ∧ BlkO w x ∧ ∀ b, x.1 = some b → s ≤ b ∧ b < w.heap.size := fun {j o} ho => by
    have hj : j < Bs.length := by rw [hbl]; exact (List.getElem?_eq_some_iff.1 ho).1
    have hx := List.getElem?_eq_getElem hj
    have hb := hc.blk _ (List.mem_of_getElem? hx)
    refine ⟨_, hx, hc.fct j o _ ho hx, hb, fun b e => ⟨Nat.le_trans hs (hc.lo b (List.mem_filterMap.2 ⟨_, List.mem_of_getElem? hx, e⟩)), ?_⟩⟩
    generalize Bs[j] = x at hb e
    obtain ⟨A, t, cs⟩ := x
    have e : A = some b := e
    subst e
    exact Blk.lt (hb : Blk w b t cs)
  let bk : Nat → Nat → Prop := fun j b => ∃ x, Bs[j]? = some x ∧ x.1 = some b
  have hinj : ∀ {j j' b}, bk j b → bk j' b → j = j' := fun {j j' b} ⟨x, hx, e⟩ ⟨y, hy, e'⟩ => nodup_far hc.nd hx hy e e'
  have hin : ∀ {j o b}, L[j]? = some o → bk j b → s ≤ b ∧ b < w.heap.size := fun {j o b} ho ⟨x, hx, e⟩ => by
    obtain ⟨y, hy, _, _, h4⟩ := hget ho
    rw [hx] at hy
    injection hy with hy
    subst hy
    exact h4 b e
  refine ⟨fun b => s ≤ b ∧ b < w.heap.size, fun b h => h, vs, bk m, fun i b => i < ls.length ∧ bk (n + i) b, ⟨?_, hl, fun i hi => ?_⟩, fun b hb => hin hm hb, fun i b ⟨hi, hb⟩ => ⟨hin (hr i hi) hb, fun h0 => ?_⟩, fun i j b hij ⟨_, hb⟩ ⟨_, hb'⟩ => ?_⟩
  · obtain ⟨x, hx, h1, h2, _⟩ := hget hm
    exact at_OS h1 h2 fun g e => ⟨x, hx, e⟩
  · obtain ⟨x, hx, h1, h2, _⟩ := hget (hr i hi)
    exact at_OS h1 h2 fun g e => ⟨hi, x, hx, e⟩
  · have := hinj hb h0
    omega
  · have := hinj hb hb'
    omega
end Go.Proofs.Ytanlaggnhocjhaa

/- The times of a run: the outer function, marks. -/
import Derived.Test.YtikijhclakccpaaGreatRTim
namespace Go.Proofs.YtikijhclakccpaaGreat
set_option linter.unusedSimpArgs false
set_option linter.unusedVariables false
open Go.RowKit Go.ChangeShapes Go.WideShapes Go.ChangeAt Go.Deep
theorem rtR_len {t : Tab} {xs : List Rn} {id : Int} : (rtR t xs id).length ≤ 6 := by
  unfold rtR
  split
  · rename_i h
    simp only [rtOk, Bool.and_eq_true, decide_eq_true_eq] at h
    have hr := rnsB_at h.1 h.2
    have hrr := rnsB_tr h.1 h.2
    have hv : tabB t = true := by have := h.1; simp only [rnsB, Bool.and_eq_true] at this; exact this.1
    have hz := (tabB_lin hv hrr.1 fndT_bd.2).s
    have hst : ((trLin t (fndT t id)).S.length : Int) = stN t (ix xs (fndR xs id)).T := by rw [fndR_val h.2]; rfl
    rw [rtX, lstI_length, rtN]
    omega
  · exact Nat.zero_le _
theorem CTG.ctSub {P : Program} {f : FuncId} {ps : List Pr} {xs : List Int} {p : Pr} (h : CTG P f ps (fun s => .inr (uT [.inr (uO s oSub xs), p]))) : CT P f ps (.inr (uT [.inr (uS (some 3) pI xs), p])) := h.ct fun s v w ⟨vs, hv, hk⟩ => by
  match vs, hk with
  | [a, b], ⟨⟨S, _, h1⟩, h2, _⟩ => exact ⟨[a, b], hv, oSub_isS h1, h2, trivial⟩
def oSub1 : Ow (List Int) := ⟨OSub, fun xs S T v w w' ⟨g, o, c, cs, h1, h2, h3, h4, h5, h6, h7⟩ hk hd => ⟨g, o, c, cs, h1, h2, h3, hk.blk h4 fun ht => hd g h6 ht, h5, h6, h7⟩⟩
def NumO (w0 : World) (S : Nat → Prop) (g o n : Nat) (k : Int) (p : Nat) (w : World) : Prop :=
  Keep S w0 w ∧ ∃ cs, Blk w g 3 cs ∧ o + n ≤ cs.length ∧ ∀ j, j < p → cs[o + j]? = some (.int .i64 (k + (j : Int)))
theorem upC_numO {w0 : World} {S : Nat → Prop} {g o n : Nat} {k : Int} {p : Nat} : UpC (NumO w0 S g o n k p) := fun _ _ ⟨h, cs, hb, hl, hj⟩ he => ⟨upC_keep _ _ h he, cs, Blk.ext hb he, hl, hj⟩
section
variable {P : Program} {ops : Array Oper} {Q : Exit → Act → World → Prop} {N : Nat} {K : List (Nat × Pr)} {rest : List Oper} {ty : TypeId} {pos : String} {af : Array Edge}
theorem Sq_storeNO {w0 : World} {S : Nat → Prop} {k : Int} {g o0 n p : Nat} {t : TypeId} {x y : Operand} {o : Nat} {v : Int} (hS : S g) (hsz : allocB P t 1 = true) (hy : kn K y = some (.inl (.pointer (some ⟨g, o, none⟩)))) (hx : kn K x = some (.inl (.int .i64 v))) (ho : o = o0 + p) (hp : p < n) (hv : v = k + (p : Int))
    (h : Sq P ops N (NumO w0 S g o0 n k (p + 1)) Q (dropR K) rest) : Sq P ops N (NumO w0 S g o0 n k p) Q K (⟨none, .store t y x, ty, pos, af, none⟩ :: rest) :=
  Sq_storeX hsz hy (fun a w hst => by
    obtain ⟨hk, cs, hb, hl, hj⟩ := hst.cls
    have hev : a.eval x = .int .i64 v := kn_val hst hx
    refine ⟨cs, [.int .i64 v], hb, by omega, by rw [hev]; rfl, rfl, fun u hu => by simp at hu; subst hu; rfl, hk.row hS _, putL cs o [.int .i64 v], Blk.set_ hb _, by rw [putL_length (by simp; omega)]; exact hl, fun j hjp => ?_⟩
    by_cases e : j = p
    · subst e
      rw [← hv, ← ho]
      exact putL_in (j := 0) (by simp; omega) rfl
    · rw [putL_out (by simp; omega) (by simp; omega)]
      exact hj j (by omega)) h
end
theorem mk_Sub1 (xs : List Int) (k : Int) (hk : 0 ≤ k ∧ k + 1 * xs.length ≤ 4611686018427387904) : MK Tryz.prog 87 oSub1 xs k (numL numIntS 1 k xs.length) (k + 1 * xs.length) := by
  refine MK_of Tryz.func87 rfl rfl rfl (fun w v S hR => ?_)
  obtain ⟨g, o, c, cs, rfl, h2, h3, h4, h5, h6, h7⟩ := hR
  refine H_weakenC (C' := NumO w S g o c k 0) (fun w' h => by subst h; exact ⟨Keep.refl _, cs, h4, h5, fun j hj => absurd hj (Nat.not_lt_zero _)⟩) ?_
  have hC : UpC (NumO w S g o c k 0) := upC_numO
  try any_goals (first | (refine H_seq ?_; try refine H_reg ?_) | refine H_reg ?_)
  try any_goals (refine W_assign (d := 4) (sq_stepper hC) rfl rfl rfl ?_)
  try any_goals (first | (refine Sq_nil ?_; try refine G_then ?_) | refine G_then ?_)
  try any_goals (refine H_seq ?_)
  try any_goals (first | (refine H_seq ?_; try refine H_reg ?_) | refine H_reg ?_)
  try any_goals (refine W_assign (d := 5) (sq_stepper hC) rfl rfl rfl ?_)
  try any_goals (first | (refine Sq_nil ?_; try refine G_then ?_) | refine G_then ?_)
  try any_goals (refine H_block ?_)
  try any_goals ((refine H_loop (σ := Nat × Int) (fun x => x.1 ≤ xs.length ∧ x.2 = k + 1 * x.1) (fun x => [(0, .inl (.slice (some ⟨g, o, none⟩) xs.length c)), (1, .inl (.int .i64 x.2)), (5, .inl (.int .i64 x.1))]) (fun x => NumO w S g o c k x.1) (fun x => xs.length - x.1) (0, k) ⟨Nat.zero_le _, by simp only; omega⟩ (fun a w' h => h.sub (by repeat (first | exact trivial | refine ⟨⟨_, rfl, fun _ _ _ h => h⟩, ?_⟩ | refine ⟨⟨_, rfl, fun v w _ h => (show v = _ from h).trans (congrArg (Value.int .i64) (by first | omega | (dsimp only; omega)))⟩, ?_⟩)) (fun w' h => by simpa using h)) (fun x hx => ?_); obtain ⟨i, kk⟩ := x; obtain ⟨hi, hkk⟩ := hx; simp only at hi hkk; have hC : UpC (NumO w S g o c k i) := upC_numO))
  try any_goals (refine H_seq ?_)
  try any_goals (first | (refine H_seq ?_; try refine H_reg ?_) | refine H_reg ?_)
  try any_goals (refine W_move (d := 6) (sq_stepper hC) rfl rfl rfl ?_)
  try any_goals (refine W_move (d := 7) (sq_stepper hC) rfl rfl rfl ?_)
  try any_goals (first | refine W_len (d := 8) (sq_stepper hC) (by kernel_rfl) rfl rfl rfl ?_ | refine W_lenStr (d := 8) (sq_stepper hC) (by kernel_rfl) rfl rfl rfl ?_ | refine W_lenO (d := 8) (sq_stepper hC) (by kernel_rfl) rfl rfl rfl ?_)
  try any_goals (first | refine W_cmp (d := 9) (sq_stepper hC) rfl rfl rfl rfl rfl ?_ | refine W_strcmp (d := 9) (sq_stepper hC) rfl rfl rfl rfl rfl ?_)
  try any_goals (first | (refine Sq_nil ?_; try refine G_then ?_) | refine G_then ?_)
  try any_goals (first | refine H_condT rfl ?_ | refine H_condF rfl ?_ | (refine H_cond _ rfl (fun hq => ?_) (fun hq => ?_) <;> (try simp only [hqs, reduceCtorEq] at hq)))
  try any_goals (refine H_skip ?_)
  try any_goals (refine H_exit ?_)
  repeat (any_goals (first | refine G_exit_then ?_ | refine G_exit_here ?_ | refine G_exit_far rfl ?_))
  try any_goals (refine G_then ?_)
  try any_goals (refine H_seq ?_)
  try any_goals (refine H_block ?_)
  try any_goals (first | (refine H_seq ?_; try refine H_reg ?_) | refine H_reg ?_)
  try any_goals (refine W_move (d := 12) (sq_stepper hC) rfl rfl rfl ?_)
  try any_goals (refine W_move (d := 13) (sq_stepper hC) rfl rfl rfl ?_)
  try any_goals (refine W_move (d := 14) (sq_stepper hC) rfl rfl rfl ?_)
  try any_goals (first | refine W_index (d := 15) (sq_stepper hC) (by kernel_rfl) rfl rfl rfl rfl (by first | omega | (dsimp only; omega)) ?_ | refine W_indexV (d := 15) (sq_stepper hC) (s := 1) (by kernel_rfl) rfl rfl rfl rfl (by omega) ?_)
  try any_goals (refine Sq_storeNO (p := i) h6 (by kernel_rfl) rfl rfl (by first | omega | (simp only [Int.toNat_natCast]; omega)) (by omega) (by omega) ?_; have hC : UpC (NumO w S g o c k (i + 1)) := upC_numO)
  try any_goals (first | (refine Sq_nil ?_; try refine G_then ?_) | refine G_then ?_)
  try any_goals (refine H_reg ?_)
  try any_goals (refine W_move (d := 16) (sq_stepper hC) rfl rfl rfl ?_)
  try any_goals (refine W_ar (d := 17) (sq_stepper hC) rfl rfl rfl rfl rfl (by first | omega | (dsimp only; omega)) ?_)
  try any_goals (refine W_assign (d := 1) (sq_stepper hC) rfl rfl rfl ?_)
  try any_goals (refine Sq_nil ?_)
  repeat (any_goals (first | refine G_exit_then ?_ | refine G_exit_here ?_ | refine G_exit_far rfl ?_ | refine G_normal_block ?_))
  try any_goals (refine G_then ?_)
  try any_goals (refine H_reg ?_)
  try any_goals (refine W_move (d := 10) (sq_stepper hC) rfl rfl rfl ?_)
  try any_goals (refine W_ar (d := 11) (sq_stepper hC) rfl rfl rfl rfl rfl (by first | omega | (dsimp only; omega)) ?_)
  try any_goals (refine W_assign (d := 5) (sq_stepper hC) rfl rfl rfl ?_)
  try any_goals (refine Sq_nil ?_)
  try any_goals (refine G_again (i + 1, _) ⟨by simp only; omega, ?_⟩ (by simp only; omega) (by repeat (first | exact trivial | refine ⟨⟨_, rfl, fun _ _ _ h => h⟩, ?_⟩ | refine ⟨⟨_, rfl, fun v w _ h => (show v = _ from h).trans (congrArg (Value.int .i64) (by first | omega | (dsimp only; omega)))⟩, ?_⟩)) (fun w' h => h))
  repeat (any_goals (first | refine G_exit_then ?_ | refine G_exit_here ?_ | refine G_exit_far rfl ?_ | refine G_normal_block ?_))
  try any_goals (refine G_then ?_)
  try any_goals (first | (refine H_seq ?_; try refine H_reg ?_) | refine H_reg ?_)
  try any_goals (refine W_move (d := 18) (sq_stepper hC) rfl rfl rfl ?_)
  try any_goals (refine W_assign (d := 4) (sq_stepper hC) rfl rfl rfl ?_)
  try any_goals (first | (refine Sq_nil ?_; try refine G_then ?_) | refine G_then ?_)
  try any_goals (refine H_ret ?_)
  repeat (any_goals (first | refine G_ret_then ?_ | refine G_ret_block ?_))
  all_goals (try dsimp only)
  all_goals first
    | omega
    | exact R_mk rfl rfl (by omega) (fun w' h => by
        obtain ⟨hk2, cs', hb, hl, hj⟩ := h
        refine ⟨hk2, g, o, c, cs', by rw [numL_length], by rw [numL_length]; exact h2, h3, hb, hl, h6, fun j z hz => ?_⟩
        have hjl : j < xs.length := by have := (List.getElem?_eq_some_iff.1 hz).1; rwa [numL_length] at this
        rw [numL, List.getElem?_map, List.getElem?_range hjl] at hz
        simp only [Option.map_some, Option.some.injEq, numIntS] at hz
        rw [hj j (by omega), ← hz]
        congr 2
        omega)
    | trace_state
theorem mk_IntSub (xs : List Int) (k : Int) (hk : 0 ≤ k ∧ k + 1 * xs.length ≤ 4611686018427387904) : MK Tryz.prog 87 oSub xs k (numL numIntS 1 k xs.length) (k + 1 * xs.length) := by
  unfold MK
  intro w v S hR
  rcases hR with ⟨h1, h2⟩ | h
  · subst h1 h2
    have hm := mk_IntS [] k hk
    unfold MK at hm
    exact (hm w (.slice none 0 0) S ⟨none, 0, 0, [], ⟨_, rfl, .inl rfl⟩, rfl, Nat.le_refl _, Nat.zero_le _, by simp, rfl, (fun g e => by cases e), (fun _ => rfl), ls_nil⟩).mono fun e w' ⟨a1, a2, a3⟩ => ⟨a1, a2, .inl ⟨rfl, rfl⟩⟩
  · have hm := mk_Sub1 xs k hk
    unfold MK at hm
    exact (hm w v S h).mono fun e w' ⟨a1, a2, a3⟩ => ⟨a1, a2, .inr a3⟩
end Go.Proofs.YtikijhclakccpaaGreat

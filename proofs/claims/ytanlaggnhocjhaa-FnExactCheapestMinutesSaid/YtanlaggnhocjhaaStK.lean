/- A stable sort of a list that ascends: blocks by insertion, then merged in passes. -/
import Derived.Test.YtanlaggnhocjhaaStM
namespace Go.Proofs.Ytanlaggnhocjhaa
set_option linter.unusedSimpArgs false
set_option linter.unusedVariables false
open Go.RowKit Go.ChangeShapes Go.WideShapes Go.ChangeAt Go.Deep
/-- Each of these was among these. -/
def Src (D E : List Int) (a b : Int) : Prop := ∀ k, a ≤ k → k < b → ∃ j, a ≤ j ∧ j < b ∧ ix E k = ix D j
/-- Sorted blocks of s up to a. -/
inductive Fll (p : Int → Int) (s : Int) (D E : List Int) : Int → Prop
  | z : Fll p s D E 0
  | n {a : Int} : Fll p s D E a → 0 ≤ a → Srt p E a (a + s) → Src D E a (a + s) → Fll p s D E (a + s)
/-- Sorted blocks of s from a on, the last one perhaps shorter. -/
inductive Chn (p : Int → Int) (s : Int) (D E : List Int) (n : Int) : Int → Prop
  | z : Chn p s D E n n
  | c {a : Int} : Srt p E a (a + s) → Src D E a (a + s) → a + s ≤ n → Chn p s D E n (a + s) → Chn p s D E n a
  | l {a : Int} : a < n → n < a + s → Srt p E a n → Src D E a n → Chn p s D E n a
theorem Src.congr {D E F : List Int} {a b : Int} (h : Src D E a b) (he : ∀ k, a ≤ k → k < b → ix F k = ix E k) : Src D F a b := fun k h1 h2 => by
  obtain ⟨j, h3, h4, e⟩ := h k h1 h2
  exact ⟨j, h3, h4, (he k h1 h2).trans e⟩
theorem Src.fr {D E F : List Int} {a b : Int} (h : Src D E a b) (hf : Fr a b E F) : Src D F a b := fun k h1 h2 => by
  obtain ⟨i, g1, g2, e⟩ := hf.s k h1 h2
  obtain ⟨j, h3, h4, e'⟩ := h i g1 g2
  exact ⟨j, h3, h4, e.trans e'⟩
theorem Src.app {D E : List Int} {a m b : Int} (h : Src D E a m) (h' : Src D E m b) (h1 : a ≤ m) (h2 : m ≤ b) : Src D E a b := fun k g1 g2 => by
  by_cases hk : k < m
  · obtain ⟨j, h3, h4, e⟩ := h k g1 hk
    exact ⟨j, h3, by omega, e⟩
  · obtain ⟨j, h3, h4, e⟩ := h' k (by omega) g2
    exact ⟨j, by omega, h4, e⟩
def Asc (D : List Int) : Prop := ∀ i j : Int, 0 ≤ i → i < j → j < D.length → ix D i < ix D j
theorem Src.ahd {D E : List Int} {a m b : Int} (hd : Asc D) (h0 : 0 ≤ a) (hb : b ≤ D.length) (h : Src D E a m) (h' : Src D E m b) : Ahd E a m b := fun i j h1 h2 h3 h4 => by
  obtain ⟨i', g1, g2, e⟩ := h i h1 h2
  obtain ⟨j', g3, g4, e'⟩ := h' j h3 h4
  rw [e, e']
  exact hd i' j' (by omega) (by omega) (by omega)
theorem Fll.congr {p : Int → Int} {s : Int} {D E F : List Int} {a : Int} (hs : 0 < s) (h : Fll p s D E a) (he : ∀ k, 0 ≤ k → k < a → ix F k = ix E k) : Fll p s D F a := by
  induction h with
  | z => exact .z
  | @n a h1 h0 h2 h3 ih => exact .n (ih fun k g1 g2 => he k g1 (by omega)) h0 (h2.congr fun k g1 g2 => he k (by omega) g2) (h3.congr fun k g1 g2 => he k (by omega) g2)
theorem Chn.congr {p : Int → Int} {s : Int} {D E F : List Int} {n a : Int} (hs : 0 < s) (h : Chn p s D E n a) (he : ∀ k, a ≤ k → k < n → ix F k = ix E k) : Chn p s D F n a := by
  induction h with
  | z => exact .z
  | @c a h1 h2 h3 h4 ih => exact .c (h1.congr fun k g1 g2 => he k g1 (by omega)) (h2.congr fun k g1 g2 => he k g1 (by omega)) h3 (ih fun k g1 g2 => he k (by omega) g2)
  | @l a h1 h2 h3 h4 => exact .l h1 h2 (h3.congr he) (h4.congr he)
theorem Fll.chn {p : Int → Int} {s : Int} {D E : List Int} {n a : Int} (hs : 0 < s) (h : Fll p s D E a) (hc : Chn p s D E n a) (ha : a ≤ n) : Chn p s D E n 0 := by
  induction h with
  | z => exact hc
  | @n a h1 h0 h2 h3 ih => exact ih (.c h2 h3 ha hc) (by omega)
theorem Chn.tl {p : Int → Int} {s : Int} {D E : List Int} {n a : Int} (ha : a ≤ n) (hb : n < a + s) (h1 : Srt p E a n) (h2 : Src D E a n) : Chn p s D E n a := by
  by_cases h : a = n
  · rw [h]; exact .z
  · exact .l (by omega) hb h1 h2
theorem Chn.le {p : Int → Int} {s : Int} {D E : List Int} {n a : Int} (hs : 0 < s) (h : Chn p s D E n a) : a ≤ n := by
  cases h with
  | z => exact Int.le_refl _
  | c h1 h2 h3 h4 => omega
  | l h1 h2 h3 h4 => omega
/-- What is left after a whole block. -/
theorem Chn.two {p : Int → Int} {s : Int} {D E : List Int} {n a b : Int} (hs : 0 < s) (h : Chn p s D E n a) (hb : a + s < b) (hb2 : (b = a + s + s ∧ b ≤ n) ∨ (b = n ∧ n < a + s + s)) : Srt p E a (a + s) ∧ Src D E a (a + s) ∧ Srt p E (a + s) b ∧ Src D E (a + s) b ∧ (b ≤ n ∧ Chn p s D E n b) := by
  cases h with
  | z => omega
  | l h1 h2 h3 h4 => omega
  | c h1 h2 h3 h4 =>
    refine ⟨h1, h2, ?_⟩
    cases h4 with
    | z => omega
    | c k1 k2 k3 k4 =>
      have e : b = a + s + s := by omega
      rw [e]
      exact ⟨k1, k2, k3, k4⟩
    | l k1 k2 k3 k4 =>
      have e : b = n := by omega
      rw [e]
      exact ⟨k3, k4, Int.le_refl _, .z⟩
theorem Chn.one {p : Int → Int} {s : Int} {D E : List Int} {n a : Int} (hs : 0 < s) (h : Chn p s D E n a) (hb : n ≤ a + s) : Chn p (2 * s) D E n a := by
  cases h with
  | z => exact .z
  | c h1 h2 h3 h4 =>
    have e : a + s = n := by omega
    rw [e] at h1 h2
    exact .l (by omega) (by omega) h1 h2
  | l h1 h2 h3 h4 => exact .l h1 (by omega) h3 h4
theorem Chn.fin {p : Int → Int} {s : Int} {D E : List Int} {n : Int} (hs : 0 < s) (h : Chn p s D E n 0) (hn : n ≤ s) : Srt p E 0 n := by
  cases h with
  | z => exact fun i j h1 h2 h3 => by omega
  | c h1 h2 h3 h4 =>
    have e : (0 : Int) + s = n := by omega
    rw [e] at h1
    exact h1
  | l h1 h2 h3 h4 => exact h3
theorem Fll.ge {p : Int → Int} {s : Int} {D E : List Int} {a : Int} (hs : 0 < s) (h : Fll p s D E a) : 0 ≤ a := by
  cases h with
  | z => exact Int.le_refl _
  | n h1 h0 h2 h3 => omega
section
variable {w0 : World} {L : List Osl} {v c : Value} {D0 : List Int}
theorem cx_stab (m : Nat) {p : Int → Int} {pr : Int → Prop} (hm : L[m]? = some (.sl Int 3 pI D0 v)) (hav : avAll L 3) (hF : ∀ ys, FunC Try.prog (Sep w0 (sI L m ys v)) c (fun z : Int => Value.int .i64 z) pr (fun x y => cmpN (p x) (p y))) (D : List Int) (hpr : ∀ x ∈ D, pr x) (hl : D.length ≤ 1048576) (hd : Asc D) :
    CTX Try.prog 73 (Sep w0 (sI L m D v)) [.inl v, .inl (.int .i64 D.length), .inl c] (fun (E : List Int) w' => Sep w0 (sI L m E v) w' ∧ E.Perm D ∧ Srt p E 0 D.length) (fun _ => .inl (.tuple #[])) := by
  refine CTX_of Try.func73 rfl rfl rfl ?_
  try any_goals (first | (refine H_seq ?_; try refine H_reg ?_) | refine H_reg ?_)
  try any_goals (refine W_assign (d := 6) (sq_stepper upC_sep) rfl rfl rfl ?_)
  try any_goals (first | (refine Sq_nil ?_; try refine G_then ?_) | refine G_then ?_)
  try any_goals (first | (refine H_seq ?_; try refine H_reg ?_) | refine H_reg ?_)
  try any_goals (refine W_move (d := 10) (sq_stepper upC_sep) rfl rfl rfl ?_)
  try any_goals (refine W_assign (d := 7) (sq_stepper upC_sep) rfl rfl rfl ?_)
  try any_goals (refine W_assign (d := 8) (sq_stepper upC_sep) rfl rfl rfl ?_)
  try any_goals (first | (refine Sq_nil ?_; try refine G_then ?_) | refine G_then ?_)
  try any_goals (refine H_seq ?_)
  try any_goals (refine H_block ?_)
  try any_goals ((refine H_loop (σ := Int × List Int) (fun x => (0 ≤ x.1 ∧ x.1 ≤ D.length) ∧ (x.2.length = D.length ∧ x.2.Perm D) ∧ Fll p 20 D x.2 x.1 ∧ ∀ k, x.1 ≤ k → k < D.length → ix x.2 k = ix D k) (fun x => [(0, .inl v), (1, .inl (.int .i64 D.length)), (2, .inl c), (6, .inl (.int .i64 20)), (7, .inl (.int .i64 x.1)), (8, .inl (.int .i64 (x.1 + 20)))]) (fun x => Sep w0 (sI L m x.2 v)) (fun x => (D.length - x.1).toNat) (0, D) ⟨⟨Int.le_refl _, by dsimp only; omega⟩, ⟨rfl, .refl _⟩, .z, fun _ _ _ => rfl⟩ (fun a w' h => h.sub (by repeat (first | exact trivial | refine ⟨⟨_, rfl, fun _ _ _ h => h⟩, ?_⟩ | refine ⟨⟨_, rfl, fun v w _ h => (show v = _ from h).trans (congrArg (Value.int .i64) (by first | omega | (dsimp only; omega)))⟩, ?_⟩)) (fun w' h => h)) (fun x hx => ?_); obtain ⟨a, E⟩ := x; obtain ⟨ha, ⟨hEl, hEp⟩, hFl, hsame⟩ := hx; simp only at ha hEl hEp hFl hsame))
  try any_goals (refine H_seq ?_)
  try any_goals (first | (refine H_seq ?_; try refine H_reg ?_) | refine H_reg ?_)
  try any_goals (refine W_move (d := 11) (sq_stepper upC_sep) rfl rfl rfl ?_)
  try any_goals (refine W_move (d := 12) (sq_stepper upC_sep) rfl rfl rfl ?_)
  try any_goals (first | refine W_cmp (d := 13) (sq_stepper upC_sep) rfl rfl rfl rfl rfl ?_ | refine W_strcmp (d := 13) (sq_stepper upC_sep) rfl rfl rfl rfl rfl ?_)
  try any_goals (first | (refine Sq_nil ?_; try refine G_then ?_) | refine G_then ?_)
  try any_goals (first | refine H_condT rfl ?_ | refine H_condF rfl (Wt.un 0 ?_) | (refine H_cond _ rfl (fun hq => ?_) (fun hq => Wt.un 0 ?_) <;> (try simp only [hqs, reduceCtorEq] at hq)))
  try any_goals (refine H_skip ?_)
  try any_goals (refine G_hold 1 ?_)
  try any_goals (refine Wt.out 0 ?_)
  try any_goals (refine H_exit ?_)
  repeat (any_goals (first | refine G_exit_then ?_ | refine G_exit_here ?_ | refine G_exit_far rfl ?_))
  try any_goals (refine G_hold 2 ?_)
  try any_goals (refine Wt.out 1 ?_)
  try any_goals (refine G_then ?_)
  try any_goals (refine H_block ?_)
  try any_goals (first | (refine H_seq ?_; try refine H_reg ?_) | refine H_reg ?_)
  try any_goals (refine W_move (d := 14) (sq_stepper upC_sep) rfl rfl rfl ?_)
  try any_goals (refine W_move (d := 15) (sq_stepper upC_sep) rfl rfl rfl ?_)
  try any_goals (refine W_move (d := 16) (sq_stepper upC_sep) rfl rfl rfl ?_)
  try any_goals (refine W_move (d := 17) (sq_stepper upC_sep) rfl rfl rfl ?_)
  try any_goals ((refine Sq_ctx (cx_insR m hm hav hF E (fun x hx => hpr x (hEp.mem_iff.1 hx)) a (a + 20) ⟨by (first | omega | (dsimp only at *; omega)), by omega, by (first | omega | (dsimp only at *; omega)), by omega⟩ (fun i j h1 h2 h3 => by rw [hsame i (by omega) (by (first | omega | (dsimp only at *; omega))), hsame j (by omega) (by (first | omega | (dsimp only at *; omega)))]; exact hd i j (by omega) h2 (by (first | omega | (dsimp only at *; omega))))) rfl rfl (by kernel_rfl) (fun F => ?_); refine Sq_pure (fun hFr => ?_)))
  try any_goals (first | (refine Sq_nil ?_; try refine G_then ?_) | refine G_then ?_)
  try any_goals (first | (refine H_seq ?_; try refine H_reg ?_) | refine H_reg ?_)
  try any_goals (refine W_move (d := 19) (sq_stepper upC_sep) rfl rfl rfl ?_)
  try any_goals (refine W_assign (d := 7) (sq_stepper upC_sep) rfl rfl rfl ?_)
  try any_goals (first | (refine Sq_nil ?_; try refine G_then ?_) | refine G_then ?_)
  try any_goals (refine H_reg ?_)
  try any_goals (refine W_move (d := 20) (sq_stepper upC_sep) rfl rfl rfl ?_)
  try any_goals (refine W_move (d := 21) (sq_stepper upC_sep) rfl rfl rfl ?_)
  try any_goals (refine W_ar (d := 22) (sq_stepper upC_sep) rfl rfl rfl rfl rfl (by first | omega | (dsimp only; omega)) ?_)
  try any_goals (refine W_assign (d := 8) (sq_stepper upC_sep) rfl rfl rfl ?_)
  try any_goals (refine Sq_nil ?_)
  repeat (any_goals (first | refine G_exit_then ?_ | refine G_exit_here ?_ | refine G_exit_far rfl ?_ | refine G_normal_block ?_))
  try any_goals ((have hsr : Src D F a (a + 20) := (fun k h1 h2 => by obtain ⟨j, g1, g2, e⟩ := hFr.1.s k h1 h2; exact ⟨j, g1, g2, e.trans (hsame j g1 (by (first | omega | (dsimp only at *; omega))))⟩); exact G_again (a + 20, F) ⟨⟨by dsimp only; omega, by (first | omega | (dsimp only at *; omega))⟩, ⟨hFr.1.l.trans hEl, hFr.1.p.trans hEp⟩, .n (hFl.congr (by decide) fun k g1 g2 => hFr.1.o k g1 (by omega)) ha.1 hFr.2 hsr, fun k h1 h2 => (hFr.1.o k (by dsimp only at h1; omega) (by dsimp only at h1; omega)).trans (hsame k (by dsimp only at h1; omega) h2)⟩ (by (first | omega | (dsimp only at *; omega))) (by repeat (first | exact trivial | refine ⟨⟨_, rfl, fun _ _ _ h => h⟩, ?_⟩ | refine ⟨⟨_, rfl, fun v w _ h => (show v = _ from h).trans (congrArg (Value.int .i64) (by first | omega | (dsimp only; omega)))⟩, ?_⟩)) (fun w' h => h)))
  try any_goals (refine Wt.out 2 ?_)
  repeat (any_goals (first | refine G_exit_then ?_ | refine G_exit_here ?_ | refine G_exit_far rfl ?_ | refine G_normal_block ?_))
  try any_goals (refine G_then ?_)
  try any_goals (first | (refine H_seq ?_; try refine H_reg ?_) | refine H_reg ?_)
  try any_goals (refine W_move (d := 23) (sq_stepper upC_sep) rfl rfl rfl ?_)
  try any_goals (refine W_move (d := 24) (sq_stepper upC_sep) rfl rfl rfl ?_)
  try any_goals (refine W_move (d := 25) (sq_stepper upC_sep) rfl rfl rfl ?_)
  try any_goals (refine W_move (d := 26) (sq_stepper upC_sep) rfl rfl rfl ?_)
  try any_goals ((refine Sq_ctx (cx_insR m hm hav hF E (fun x hx => hpr x (hEp.mem_iff.1 hx)) a D.length ⟨by omega, by omega, by omega, by omega⟩ (fun i j h1 h2 h3 => by rw [hsame i (by omega) (by omega), hsame j (by omega) (by omega)]; exact hd i j (by omega) h2 (by omega))) rfl rfl (by kernel_rfl) (fun F => ?_); refine Sq_pure (fun hFr => ?_)))
  try any_goals (first | (refine Sq_nil ?_; try refine G_then ?_) | refine G_then ?_)
  try any_goals (refine H_block ?_)
  try any_goals (((have hsr : Src D F a D.length := (fun k h1 h2 => by obtain ⟨j, g1, g2, e⟩ := hFr.1.s k h1 h2; exact ⟨j, g1, g2, e.trans (hsame j g1 (by omega))⟩); have hch : Chn p 20 D F D.length 0 := ((hFl.congr (by decide) fun k g1 g2 => hFr.1.o k g1 (by omega)).chn (by decide) (.tl ha.2 (by first | omega | (dsimp only at *; omega)) hFr.2 hsr) ha.2)); refine H_loop (σ := Int × List Int) (fun x => (20 ≤ x.1 ∧ (x.1 = 20 ∨ x.1 < 2 * D.length)) ∧ (x.2.length = D.length ∧ x.2.Perm D) ∧ Chn p x.1 D x.2 D.length 0) (fun x => [(0, .inl v), (1, .inl (.int .i64 D.length)), (2, .inl c), (6, .inl (.int .i64 x.1))]) (fun x => Sep w0 (sI L m x.2 v)) (fun x => (D.length - x.1).toNat) (20, F) ⟨⟨Int.le_refl _, .inl rfl⟩, ⟨hFr.1.l.trans hEl, hFr.1.p.trans hEp⟩, hch⟩ (fun a w' h => h.sub (by repeat (first | exact trivial | refine ⟨⟨_, rfl, fun _ _ _ h => h⟩, ?_⟩ | refine ⟨⟨_, rfl, fun v w _ h => (show v = _ from h).trans (congrArg (Value.int .i64) (by first | omega | (dsimp only; omega)))⟩, ?_⟩)) (fun w' h => h)) (fun x hx => ?_); obtain ⟨s, G⟩ := x; obtain ⟨hs, ⟨hGl, hGp⟩, hG⟩ := hx; simp only at hs hGl hGp hG))
  try any_goals (refine H_seq ?_)
  try any_goals (first | (refine H_seq ?_; try refine H_reg ?_) | refine H_reg ?_)
  try any_goals (refine W_move (d := 28) (sq_stepper upC_sep) rfl rfl rfl ?_)
  try any_goals (refine W_move (d := 29) (sq_stepper upC_sep) rfl rfl rfl ?_)
  try any_goals (first | refine W_cmp (d := 30) (sq_stepper upC_sep) rfl rfl rfl rfl rfl ?_ | refine W_strcmp (d := 30) (sq_stepper upC_sep) rfl rfl rfl rfl rfl ?_)
  try any_goals (first | (refine Sq_nil ?_; try refine G_then ?_) | refine G_then ?_)
  try any_goals (first | refine H_condT rfl ?_ | refine H_condF rfl (Wt.un 3 ?_) | (refine H_cond _ rfl (fun hq => ?_) (fun hq => Wt.un 3 ?_) <;> (try simp only [hqs, reduceCtorEq] at hq)))
  try any_goals (refine H_skip ?_)
  try any_goals (refine G_hold 4 ?_)
  try any_goals (refine Wt.out 3 ?_)
  try any_goals (refine H_exit ?_)
  repeat (any_goals (first | refine G_exit_then ?_ | refine G_exit_here ?_ | refine G_exit_far rfl ?_))
  try any_goals (refine G_hold 5 ?_)
  try any_goals (refine Wt.out 4 ?_)
  try any_goals (refine G_then ?_)
  try any_goals (refine H_block ?_)
  try any_goals (first | (refine H_seq ?_; try refine H_reg ?_) | refine H_reg ?_)
  try any_goals (refine W_move (d := 31) (sq_stepper upC_sep) rfl rfl rfl ?_)
  try any_goals (refine W_ar (d := 32) (sq_stepper upC_sep) rfl rfl rfl rfl rfl (by first | omega | (dsimp only; omega)) ?_)
  try any_goals (refine W_assign (d := 7) (sq_stepper upC_sep) rfl rfl rfl ?_)
  try any_goals (refine W_assign (d := 8) (sq_stepper upC_sep) rfl rfl rfl ?_)
  try any_goals (first | (refine Sq_nil ?_; try refine G_then ?_) | refine G_then ?_)
  try any_goals (refine H_seq ?_)
  try any_goals (refine H_block ?_)
  try any_goals ((refine H_loop (σ := Int × List Int) (fun x => (0 ≤ x.1 ∧ x.1 ≤ D.length) ∧ (x.2.length = D.length ∧ x.2.Perm D) ∧ Fll p (2 * s) D x.2 x.1 ∧ Chn p s D x.2 D.length x.1) (fun x => [(0, .inl v), (1, .inl (.int .i64 D.length)), (2, .inl c), (6, .inl (.int .i64 s)), (7, .inl (.int .i64 x.1)), (8, .inl (.int .i64 (x.1 + 2 * s)))]) (fun x => Sep w0 (sI L m x.2 v)) (fun x => (D.length - x.1).toNat) (0, G) ⟨⟨Int.le_refl _, by dsimp only; omega⟩, ⟨hGl, hGp⟩, .z, hG⟩ (fun a w' h => h.sub (by repeat (first | exact trivial | refine ⟨⟨_, rfl, fun _ _ _ h => h⟩, ?_⟩ | refine ⟨⟨_, rfl, fun v w _ h => (show v = _ from h).trans (congrArg (Value.int .i64) (by first | omega | (dsimp only; omega)))⟩, ?_⟩)) (fun w' h => h)) (fun x hx => ?_); obtain ⟨t, H⟩ := x; obtain ⟨ht, ⟨hHl, hHp⟩, hHf, hHc⟩ := hx; simp only at ht hHl hHp hHf hHc))
  try any_goals (refine H_seq ?_)
  try any_goals (first | (refine H_seq ?_; try refine H_reg ?_) | refine H_reg ?_)
  try any_goals (refine W_move (d := 33) (sq_stepper upC_sep) rfl rfl rfl ?_)
  try any_goals (refine W_move (d := 34) (sq_stepper upC_sep) rfl rfl rfl ?_)
  try any_goals (first | refine W_cmp (d := 35) (sq_stepper upC_sep) rfl rfl rfl rfl rfl ?_ | refine W_strcmp (d := 35) (sq_stepper upC_sep) rfl rfl rfl rfl rfl ?_)
  try any_goals (first | (refine Sq_nil ?_; try refine G_then ?_) | refine G_then ?_)
  try any_goals (first | refine H_condT rfl ?_ | refine H_condF rfl (Wt.un 6 ?_) | (refine H_cond _ rfl (fun hq => ?_) (fun hq => Wt.un 6 ?_) <;> (try simp only [hqs, reduceCtorEq] at hq)))
  try any_goals (refine H_skip ?_)
  try any_goals (refine G_hold 7 ?_)
  try any_goals (refine Wt.out 6 ?_)
  try any_goals (refine H_exit ?_)
  repeat (any_goals (first | refine G_exit_then ?_ | refine G_exit_here ?_ | refine G_exit_far rfl ?_))
  try any_goals (refine G_hold 8 ?_)
  try any_goals (refine Wt.out 7 ?_)
  try any_goals (refine G_then ?_)
  try any_goals (refine H_block ?_)
  try any_goals (refine H_seq ?_)
  try any_goals ((have h2 := hHc.two (by omega) (b := t + s + s) (by omega) (.inl ⟨rfl, by (first | omega | (dsimp only at *; omega))⟩)))
  try any_goals (refine H_reg ?_)
  try any_goals (refine W_move (d := 36) (sq_stepper upC_sep) rfl rfl rfl ?_)
  try any_goals (refine W_move (d := 37) (sq_stepper upC_sep) rfl rfl rfl ?_)
  try any_goals (refine W_move (d := 38) (sq_stepper upC_sep) rfl rfl rfl ?_)
  try any_goals (refine W_move (d := 39) (sq_stepper upC_sep) rfl rfl rfl ?_)
  try any_goals (refine W_ar (d := 40) (sq_stepper upC_sep) rfl rfl rfl rfl rfl (by first | omega | (dsimp only; omega)) ?_)
  try any_goals (refine W_move (d := 41) (sq_stepper upC_sep) rfl rfl rfl ?_)
  try any_goals (refine W_move (d := 42) (sq_stepper upC_sep) rfl rfl rfl ?_)
  try any_goals ((refine Sq_ctx (cx_sym m hm hav hF _ H t (t + s) (t + 2 * s) (Nat.le_refl _) (fun x hx => hpr x (hHp.mem_iff.1 hx)) ⟨by omega, by omega, by omega, by (first | omega | (dsimp only at *; omega)), by omega⟩ h2.1 (by rw [show t + 2 * s = t + s + s by omega]; exact h2.2.2.1) (Src.ahd hd ht.1 (by (first | omega | (dsimp only at *; omega))) h2.2.1 (by rw [show t + 2 * s = t + s + s by omega]; exact h2.2.2.2.1))) rfl rfl (by kernel_rfl) (fun I => ?_); refine Sq_pure (fun hI => ?_)))
  try any_goals (first | (refine Sq_nil ?_; try refine G_then ?_) | refine G_then ?_)
  try any_goals (first | (refine H_seq ?_; try refine H_reg ?_) | refine H_reg ?_)
  try any_goals (refine W_move (d := 44) (sq_stepper upC_sep) rfl rfl rfl ?_)
  try any_goals (refine W_assign (d := 7) (sq_stepper upC_sep) rfl rfl rfl ?_)
  try any_goals (first | (refine Sq_nil ?_; try refine G_then ?_) | refine G_then ?_)
  try any_goals (refine H_reg ?_)
  try any_goals (refine W_move (d := 45) (sq_stepper upC_sep) rfl rfl rfl ?_)
  try any_goals (refine W_move (d := 46) (sq_stepper upC_sep) rfl rfl rfl ?_)
  try any_goals (refine W_ar (d := 47) (sq_stepper upC_sep) rfl rfl rfl rfl rfl (by first | omega | (dsimp only; omega)) ?_)
  try any_goals (refine W_ar (d := 48) (sq_stepper upC_sep) rfl rfl rfl rfl rfl (by first | omega | (dsimp only; omega)) ?_)
  try any_goals (refine W_assign (d := 8) (sq_stepper upC_sep) rfl rfl rfl ?_)
  try any_goals (refine Sq_nil ?_)
  repeat (any_goals (first | refine G_exit_then ?_ | refine G_exit_here ?_ | refine G_exit_far rfl ?_ | refine G_normal_block ?_))
  try any_goals ((have hsr : Src D I t (t + 2 * s) := (by have h3 := h2.2.1.app h2.2.2.2.1 (by omega) (by omega); rw [show t + s + s = t + 2 * s by omega] at h3; exact h3.fr hI.1); exact G_again (t + 2 * s, I) ⟨⟨by dsimp only; omega, by (first | omega | (dsimp only at *; omega))⟩, ⟨hI.1.l.trans hHl, hI.1.p.trans hHp⟩, .n (hHf.congr (by omega) fun k g1 g2 => hI.1.o k g1 (by omega)) ht.1 hI.2 hsr, (by dsimp only; rw [show t + 2 * s = t + s + s by omega]; exact h2.2.2.2.2.2.congr (by omega) fun k g1 g2 => hI.1.o k (by omega) (by omega))⟩ (by (first | omega | (dsimp only at *; omega))) (by repeat (first | exact trivial | refine ⟨⟨_, rfl, fun _ _ _ h => h⟩, ?_⟩ | refine ⟨⟨_, rfl, fun v w _ h => (show v = _ from h).trans (congrArg (Value.int .i64) (by first | omega | (dsimp only; omega)))⟩, ?_⟩)) (fun w' h => h)))
  try any_goals (refine Wt.out 8 ?_)
  repeat (any_goals (first | refine G_exit_then ?_ | refine G_exit_here ?_ | refine G_exit_far rfl ?_ | refine G_normal_block ?_))
  try any_goals (refine G_then ?_)
  try any_goals (refine H_seq ?_)
  try any_goals (first | (refine H_seq ?_; try refine H_reg ?_) | refine H_reg ?_)
  try any_goals (refine W_move (d := 49) (sq_stepper upC_sep) rfl rfl rfl ?_)
  try any_goals (refine W_move (d := 50) (sq_stepper upC_sep) rfl rfl rfl ?_)
  try any_goals (refine W_ar (d := 51) (sq_stepper upC_sep) rfl rfl rfl rfl rfl (by first | omega | (dsimp only; omega)) ?_)
  try any_goals (refine W_assign (d := 9) (sq_stepper upC_sep) rfl rfl rfl ?_)
  try any_goals (first | (refine Sq_nil ?_; try refine G_then ?_) | refine G_then ?_)
  try any_goals (first | (refine H_seq ?_; try refine H_reg ?_) | refine H_reg ?_)
  try any_goals (refine W_move (d := 52) (sq_stepper upC_sep) rfl rfl rfl ?_)
  try any_goals (refine W_move (d := 53) (sq_stepper upC_sep) rfl rfl rfl ?_)
  try any_goals (first | refine W_cmp (d := 54) (sq_stepper upC_sep) rfl rfl rfl rfl rfl ?_ | refine W_strcmp (d := 54) (sq_stepper upC_sep) rfl rfl rfl rfl rfl ?_)
  try any_goals (first | (refine Sq_nil ?_; try refine G_then ?_) | refine G_then ?_)
  try any_goals (first | refine H_condT rfl ?_ | refine H_condF rfl (Wt.un 9 ?_) | (refine H_cond _ rfl (fun hq => ?_) (fun hq => Wt.un 9 ?_) <;> (try simp only [hqs, reduceCtorEq] at hq)))
  try any_goals ((have h2 := hHc.two (by omega) (b := D.length) (by (first | omega | (dsimp only at *; omega))) (.inr ⟨rfl, by (first | omega | (dsimp only at *; omega))⟩)))
  try any_goals (refine H_reg ?_)
  try any_goals (refine W_move (d := 55) (sq_stepper upC_sep) rfl rfl rfl ?_)
  try any_goals (refine W_move (d := 56) (sq_stepper upC_sep) rfl rfl rfl ?_)
  try any_goals (refine W_move (d := 57) (sq_stepper upC_sep) rfl rfl rfl ?_)
  try any_goals (refine W_move (d := 58) (sq_stepper upC_sep) rfl rfl rfl ?_)
  try any_goals (refine W_move (d := 59) (sq_stepper upC_sep) rfl rfl rfl ?_)
  try any_goals ((refine Sq_ctx (cx_sym m hm hav hF _ H t (t + s) D.length (Nat.le_refl _) (fun x hx => hpr x (hHp.mem_iff.1 hx)) ⟨by omega, by omega, by (first | omega | (dsimp only at *; omega)), by omega, by omega⟩ h2.1 h2.2.2.1 (Src.ahd hd ht.1 (by omega) h2.2.1 h2.2.2.2.1)) rfl rfl (by kernel_rfl) (fun I => ?_); refine Sq_pure (fun hI => ?_)))
  try any_goals (refine Sq_nil ?_)
  try any_goals (refine G_hold 10 ?_)
  try any_goals (refine Wt.out 9 ?_)
  try any_goals (refine H_skip ?_)
  try any_goals (refine Wt.out 10 ?_)
  try any_goals (refine G_then ?_)
  try any_goals (refine H_reg ?_)
  try any_goals (refine W_move (d := 61) (sq_stepper upC_sep) rfl rfl rfl ?_)
  try any_goals (refine W_ar (d := 62) (sq_stepper upC_sep) rfl rfl rfl rfl rfl (by first | omega | (dsimp only; omega)) ?_)
  try any_goals (refine W_assign (d := 6) (sq_stepper upC_sep) rfl rfl rfl ?_)
  try any_goals (refine Sq_nil ?_)
  repeat (any_goals (first | refine G_exit_then ?_ | refine G_exit_here ?_ | refine G_exit_far rfl ?_ | refine G_normal_block ?_))
  try any_goals (first | (have hsr : Src D I t D.length := ((h2.2.1.app h2.2.2.2.1 (by omega) (by (first | omega | (dsimp only at *; omega)))).fr hI.1); have hch2 : Chn p (2 * s) D I D.length 0 := ((hHf.congr (by omega) fun k g1 g2 => hI.1.o k g1 (by omega)).chn (by omega) (.l (by (first | omega | (dsimp only at *; omega))) (by (first | omega | (dsimp only at *; omega))) hI.2 hsr) ht.2); exact G_again (2 * s, I) ⟨⟨by dsimp only; omega, by (first | omega | (dsimp only at *; omega))⟩, ⟨hI.1.l.trans hHl, hI.1.p.trans hHp⟩, hch2⟩ (by (first | omega | (dsimp only at *; omega))) (by repeat (first | exact trivial | refine ⟨⟨_, rfl, fun _ _ _ h => h⟩, ?_⟩ | refine ⟨⟨_, rfl, fun v w _ h => (show v = _ from h).trans (congrArg (Value.int .i64) (by first | omega | (dsimp only; omega)))⟩, ?_⟩)) (fun w' h => h)) | (have hch2 : Chn p (2 * s) D H D.length 0 := (hHf.chn (by omega) (hHc.one (by omega) (by (first | omega | (dsimp only at *; omega)))) ht.2); exact G_again (2 * s, H) ⟨⟨by dsimp only; omega, by (first | omega | (dsimp only at *; omega))⟩, ⟨hHl, hHp⟩, hch2⟩ (by (first | omega | (dsimp only at *; omega))) (by repeat (first | exact trivial | refine ⟨⟨_, rfl, fun _ _ _ h => h⟩, ?_⟩ | refine ⟨⟨_, rfl, fun v w _ h => (show v = _ from h).trans (congrArg (Value.int .i64) (by first | omega | (dsimp only; omega)))⟩, ?_⟩)) (fun w' h => h)))
  try any_goals (refine Wt.out 5 ?_)
  repeat (any_goals (first | refine G_exit_then ?_ | refine G_exit_here ?_ | refine G_exit_far rfl ?_ | refine G_normal_block ?_))
  all_goals first
    | exact RX0 rfl (fun w h9 => ⟨G, ⟨h9, hGp, hG.fin (by omega) (by (first | omega | (dsimp only at *; omega)))⟩, rfl⟩)
    | trace_state
theorem cx_ssf (m : Nat) {p : Int → Int} {pr : Int → Prop} {D : List Int} (hm : L[m]? = some (.sl Int 3 pI D v)) (hav : avAll L 3) (hF : ∀ ys, FunC Try.prog (Sep w0 (sI L m ys v)) c (fun z : Int => Value.int .i64 z) pr (fun x y => cmpN (p x) (p y))) (hpr : ∀ x ∈ D, pr x) (hl : D.length ≤ 1048576) (hd : Asc D) :
    CTX Try.prog 51 (Sep w0 L) [.inl v, .inl c] (fun (E : List Int) w' => Sep w0 (sI L m E v) w' ∧ E.Perm D ∧ Srt p E 0 D.length) (fun _ => .inl (.tuple #[])) := by
  refine CTX_of Try.func51 rfl rfl rfl ?_
  refine H_weakenC (C' := Sep w0 (sI L m D v)) (fun w' h => by rw [sI, set_same' hm]; exact h) ?_
  try any_goals (refine H_reg ?_)
  try any_goals (refine W_move (d := 4) (sq_stepper upC_sep) rfl rfl rfl ?_)
  try any_goals (refine W_move (d := 5) (sq_stepper upC_sep) rfl rfl rfl ?_)
  try any_goals (refine W_lenS (d := 6) m (sq_stepper upC_sep) (hm_set hm) (by kernel_rfl) rfl rfl rfl ?_)
  try any_goals (refine W_move (d := 7) (sq_stepper upC_sep) rfl rfl rfl ?_)
  try any_goals ((refine Sq_ctx (cx_stab m hm hav hF D hpr hl hd) rfl rfl (by kernel_rfl) (fun E => ?_)))
  try any_goals (refine Sq_nil ?_)
  all_goals exact RX0 rfl (fun w h9 => ⟨E, h9, rfl⟩)
end
end Go.Proofs.Ytanlaggnhocjhaa

/- The levels before and after every leg, as the program makes them. -/
import Derived.Test.YtdpcbbbfikhiiaaLev
namespace Go.Proofs.Ytdpcbbbfikhiiaa
set_option linter.unusedSimpArgs false
set_option linter.unusedVariables false
open Go.RowKit Go.ChangeShapes Go.WideShapes Go.ChangeAt Go.Deep
/-- The level before a leg, by the other rule of charging. -/
theorem chg_bef {xs : List Leg} {b : Bat} {l : Int} {p : List Int} (hv : Val xs b l p) {i : Nat} (hi : ((i + 1 : Nat) : Int) < xs.length) : chg b (aft xs b l p i) (ix p i) = bef xs b l p (i + 1) := by
  have h1 := hv.bef i (by omega)
  have h2 := hv.leg (i := i) (by omega) (by omega)
  have h3 := hv.prod (i := i) (by omega) (by have := hv.len; omega)
  unfold chg aft
  rw [Proofs.Ytdpcbbbfikhiiaa.bef]
  split <;> omega
theorem chg_at {xs : List Leg} {b : Bat} {l : Int} {p : List Int} (hv : Val xs b l p) {i : Nat} {lev : Int} (hi : 0 < i ∧ (i : Int) < xs.length) (hl : lev = aft xs b l p (i - 1)) : chg b lev (ix p ((i : Int) - 1)) = bef xs b l p i := by
  obtain ⟨k, rfl⟩ : ∃ k, i = k + 1 := ⟨i - 1, by omega⟩
  rw [hl, show k + 1 - 1 = k by omega, show (((k + 1 : Nat) : Int) - 1) = (k : Int) by omega]
  exact chg_bef hv hi.2
theorem aft_bd {xs : List Leg} {b : Bat} {l : Int} {p : List Int} (hv : Val xs b l p) {i : Nat} {lev : Int} (hi : 0 < i ∧ (i : Int) < xs.length) (hl : lev = aft xs b l p (i - 1)) : -200000 ≤ lev ∧ lev ≤ 10000 := by
  have h1 := hv.bef (i - 1) (by omega)
  have h2 := hv.leg (i := ((i - 1 : Nat) : Int)) (by omega) (by omega)
  have h3 := hv.bat
  have h4 := hv.len
  rw [hl, aft]
  omega
def lst (f : Nat → Int) (n : Nat) : List Int := (List.range n).map f
theorem lst_length {f : Nat → Int} {n : Nat} : (lst f n).length = n := by simp [lst]
theorem lst_LS {f : Nat → Int} {n : Nat} {cs : List Value} {w : World} (h : ∀ j, j < n → cs[j]? = some (.int .i64 (f j))) : LS pI (lst f n) cs w := fun j z hz => by
  have hj : j < n := by have := (List.getElem?_eq_some_iff.1 hz).1; rwa [lst_length] at this
  rw [lst, List.getElem?_map, List.getElem?_range hj] at hz
  simp only [Option.map_some, Option.some.injEq] at hz
  subst hz
  show (cs.drop (j * 1)).take 1 = [.int .i64 (f j)]
  have hl := (List.getElem?_eq_some_iff.1 (h j hj)).1
  rw [Nat.mul_one, List.drop_eq_getElem_cons hl]
  have := h j hj
  rw [List.getElem?_eq_getElem hl] at this
  injection this with this
  rw [this]
  rfl
theorem put_one {cs : List Value} {f : Nat → Int} {i : Nat} {o : Nat} {x : Int} (ho : o = i) (hi : i < cs.length) (hx : x = f i) (h : ∀ j, j < i → cs[j]? = some (.int .i64 (f j))) : (putL cs o [.int .i64 x]).length = cs.length ∧ ∀ j, j < i + 1 → (putL cs o [.int .i64 x])[j]? = some (.int .i64 (f j)) := by
  subst ho
  refine ⟨putL_length (by simp; omega), fun j hj => ?_⟩
  by_cases e : j = o
  · subst e
    rw [← hx]
    exact putL_in (j := 0) (by simp; omega) rfl
  · rw [putL_out (by simp; omega) (by simp; omega)]
    exact h j (by omega)
theorem aft_now {xs : List Leg} {b : Bat} {l : Int} {p : List Int} {i : Nat} {L : Int} (h : L = bef xs b l p i) : L - (ix xs (i : Int)).U = aft xs b l p i := by rw [h, aft]
theorem aft_next {xs : List Leg} {b : Bat} {l : Int} {p : List Int} {i : Nat} {L : Int} (h : L = bef xs b l p i) : L - (ix xs (i : Int)).U = aft xs b l p (i + 1 - 1) := aft_now h
theorem bef_zero {xs : List Leg} {b : Bat} {l : Int} {p : List Int} {i : Nat} {lev : Int} (hl0 : i = 0 → lev = l) (hq : (i : Int) ≤ 0) : lev = bef xs b l p i := by
  have e : i = 0 := by omega
  subst e
  exact hl0 rfl
theorem leg_det {z : Leg} : ∀ cs w, pLeg.φ z cs w → cs = [.int .i64 z.F, .int .i64 z.T, .int .i64 z.U] := fun cs w ⟨c1, c2, h1, e1, c3, c4, h2, e2, c5, c6, h3, e3, e4⟩ => by
  subst h1 h2 h3
  have e1' : c1 = [.int .i64 z.F] := e1
  have e2' : c3 = [.int .i64 z.T] := e2
  have e3' : c5 = [.int .i64 z.U] := e3
  have e4' : c6 = [] := e4
  subst e1' e2' e3' e4'
  rfl
theorem cg_levels {e1 e2 : Option TypeId} (xs : List Leg) (b : Bat) (l : Int) (p : List Int) (hv : Val xs b l p) : CTG Try.prog 65 [.inr (uS e1 pLeg xs), .inr (uA pBat b), .inl (.int .i64 l), .inr (uS e2 pI p)]
    (fun s => .inr (uT [.inr (uO s oIntS (lst (aft xs b l p) xs.length)), .inr (uO s oIntS (lst (bef xs b l p) xs.length))])) := by
  refine CTG_of4V Try.func65 rfl rfl rfl (fun w s v0 v1 v2 v3 hs hv0 hv1 hv2 hv3 => ?_)
  obtain ⟨cs0, rfl, hz0⟩ := hv1
  obtain rfl : v2 = .int .i64 l := hv2
  have hlen := hv.len
  have hbat := hv.bat
  have hlv := hv.lv
  refine H_weakenC (C' := Cls w [] fun _ => True) (fun w' h => cls_ext w' h) ?_
  have hF : UpC (fun _ : World => True) := upC_true
  try any_goals (refine H_seq ?_)
  try any_goals (refine H_reg ?_)
  try any_goals (first | refine Sq_boxC (d := 5) hF rfl rfl (fun g5 hlo => ?_) | refine W_loadARC (d := 5) 2 (sq_stepper (upC_cls hF)) hz0 (by kernel_rfl) rfl rfl rfl rfl ?_ | refine W_loadARC (d := 5) 3 (sq_stepper (upC_cls hF)) hz0 (by kernel_rfl) rfl rfl rfl rfl ?_ | refine W_loadC (d := 5) 0 (sq_stepper (upC_cls hF)) (by kernel_rfl) rfl rfl rfl rfl rfl ?_ | refine W_lenR (d := 5) (sq_stepper (upC_cls hF)) (xs := xs) (fun w' h => IsS.up (Cls.ext h) hv0) (by kernel_rfl) rfl rfl rfl ?_ | refine W_indexR (d := 5) (sq_stepper (upC_cls hF)) (xs := xs) (fun w' h => IsS.up (Cls.ext h) hv0) (by kernel_rfl) rfl rfl rfl rfl (by omega) ?_ | refine W_indexO (d := 5) (s := 1) (sq_stepper (upC_cls hF)) (by kernel_rfl) rfl rfl rfl rfl (by omega) ?_)
  try any_goals (first | refine W_assign (d := 8) (sq_stepper (upC_cls hF)) rfl rfl rfl ?_ | refine W_loadARC (d := 8) 2 (sq_stepper (upC_cls hF)) hz0 (by kernel_rfl) rfl rfl rfl rfl ?_ | refine W_loadARC (d := 8) 3 (sq_stepper (upC_cls hF)) hz0 (by kernel_rfl) rfl rfl rfl rfl ?_ | refine W_loadC (d := 8) 0 (sq_stepper (upC_cls hF)) (by kernel_rfl) rfl rfl rfl rfl rfl ?_ | refine W_lenR (d := 8) (sq_stepper (upC_cls hF)) (xs := xs) (fun w' h => IsS.up (Cls.ext h) hv0) (by kernel_rfl) rfl rfl rfl ?_ | refine W_indexR (d := 8) (sq_stepper (upC_cls hF)) (xs := xs) (fun w' h => IsS.up (Cls.ext h) hv0) (by kernel_rfl) rfl rfl rfl rfl (by omega) ?_ | refine W_indexO (d := 8) (s := 1) (sq_stepper (upC_cls hF)) (by kernel_rfl) rfl rfl rfl rfl (by omega) ?_)
  try any_goals (first | refine W_assign (d := 9) (sq_stepper (upC_cls hF)) rfl rfl rfl ?_ | refine W_loadARC (d := 9) 2 (sq_stepper (upC_cls hF)) hz0 (by kernel_rfl) rfl rfl rfl rfl ?_ | refine W_loadARC (d := 9) 3 (sq_stepper (upC_cls hF)) hz0 (by kernel_rfl) rfl rfl rfl rfl ?_ | refine W_loadC (d := 9) 0 (sq_stepper (upC_cls hF)) (by kernel_rfl) rfl rfl rfl rfl rfl ?_ | refine W_lenR (d := 9) (sq_stepper (upC_cls hF)) (xs := xs) (fun w' h => IsS.up (Cls.ext h) hv0) (by kernel_rfl) rfl rfl rfl ?_ | refine W_indexR (d := 9) (sq_stepper (upC_cls hF)) (xs := xs) (fun w' h => IsS.up (Cls.ext h) hv0) (by kernel_rfl) rfl rfl rfl rfl (by omega) ?_ | refine W_indexO (d := 9) (s := 1) (sq_stepper (upC_cls hF)) (by kernel_rfl) rfl rfl rfl rfl (by omega) ?_)
  try any_goals (refine Sq_nil ?_)
  try any_goals (refine G_then ?_)
  try any_goals (refine H_seq ?_)
  try any_goals (refine H_drawF (by kernel_rfl) (upC_cls hF) (fun wr hwr => ?_))
  try any_goals (first | refine W_moveR (d := 14) wkF_stepper (U := uS e1 pLeg xs) (fun w' h => IsS.up (Cls.ext h) hv0) rfl rfl rfl ?_ | refine W_moveR (d := 14) wkF_stepper (U := uS e1 pLeg xs) (fun w' h => IsS.up (Cls.ext h.1) hv0) rfl rfl rfl ?_ | refine W_move (d := 14) wkF_stepper rfl rfl rfl ?_ | refine W_loadARC (d := 14) 2 wkF_stepper hz0 (by kernel_rfl) rfl rfl rfl rfl ?_ | refine W_loadARC (d := 14) 3 wkF_stepper hz0 (by kernel_rfl) rfl rfl rfl rfl ?_ | refine W_loadC (d := 14) 0 wkF_stepper (by kernel_rfl) rfl rfl rfl rfl rfl ?_ | refine W_lenR (d := 14) wkF_stepper (xs := xs) (fun w' h => IsS.up (Cls.ext h) hv0) (by kernel_rfl) rfl rfl rfl ?_ | refine W_indexR (d := 14) wkF_stepper (xs := xs) (fun w' h => IsS.up (Cls.ext h) hv0) (by kernel_rfl) rfl rfl rfl rfl (by omega) ?_ | refine W_indexO (d := 14) (s := 1) wkF_stepper (by kernel_rfl) rfl rfl rfl rfl (by omega) ?_)
  try any_goals (first | refine W_len (d := 15) wkF_stepper (by kernel_rfl) rfl rfl rfl ?_ | refine W_lenStr (d := 15) wkF_stepper (by kernel_rfl) rfl rfl rfl ?_ | refine W_loadARC (d := 15) 2 wkF_stepper hz0 (by kernel_rfl) rfl rfl rfl rfl ?_ | refine W_loadARC (d := 15) 3 wkF_stepper hz0 (by kernel_rfl) rfl rfl rfl rfl ?_ | refine W_loadC (d := 15) 0 wkF_stepper (by kernel_rfl) rfl rfl rfl rfl rfl ?_ | refine W_lenR (d := 15) wkF_stepper (xs := xs) (fun w' h => IsS.up (Cls.ext h) hv0) (by kernel_rfl) rfl rfl rfl ?_ | refine W_indexR (d := 15) wkF_stepper (xs := xs) (fun w' h => IsS.up (Cls.ext h) hv0) (by kernel_rfl) rfl rfl rfl rfl (by omega) ?_ | refine W_indexO (d := 15) (s := 1) wkF_stepper (by kernel_rfl) rfl rfl rfl rfl (by omega) ?_)
  try any_goals (refine WkF_make (d := 16) (e := 3) (k := 1) (by kernel_rfl) rfl rfl rfl ⟨by omega, by omega⟩ ?_)
  try any_goals (first | refine W_moveR (d := 17) wkF_stepper (U := uS e1 pLeg xs) (fun w' h => IsS.up (Cls.ext h) hv0) rfl rfl rfl ?_ | refine W_moveR (d := 17) wkF_stepper (U := uS e1 pLeg xs) (fun w' h => IsS.up (Cls.ext h.1) hv0) rfl rfl rfl ?_ | refine W_move (d := 17) wkF_stepper rfl rfl rfl ?_ | refine W_loadARC (d := 17) 2 wkF_stepper hz0 (by kernel_rfl) rfl rfl rfl rfl ?_ | refine W_loadARC (d := 17) 3 wkF_stepper hz0 (by kernel_rfl) rfl rfl rfl rfl ?_ | refine W_loadC (d := 17) 0 wkF_stepper (by kernel_rfl) rfl rfl rfl rfl rfl ?_ | refine W_lenR (d := 17) wkF_stepper (xs := xs) (fun w' h => IsS.up (Cls.ext h) hv0) (by kernel_rfl) rfl rfl rfl ?_ | refine W_indexR (d := 17) wkF_stepper (xs := xs) (fun w' h => IsS.up (Cls.ext h) hv0) (by kernel_rfl) rfl rfl rfl rfl (by omega) ?_ | refine W_indexO (d := 17) (s := 1) wkF_stepper (by kernel_rfl) rfl rfl rfl rfl (by omega) ?_)
  try any_goals (first | refine W_len (d := 18) wkF_stepper (by kernel_rfl) rfl rfl rfl ?_ | refine W_lenStr (d := 18) wkF_stepper (by kernel_rfl) rfl rfl rfl ?_ | refine W_loadARC (d := 18) 2 wkF_stepper hz0 (by kernel_rfl) rfl rfl rfl rfl ?_ | refine W_loadARC (d := 18) 3 wkF_stepper hz0 (by kernel_rfl) rfl rfl rfl rfl ?_ | refine W_loadC (d := 18) 0 wkF_stepper (by kernel_rfl) rfl rfl rfl rfl rfl ?_ | refine W_lenR (d := 18) wkF_stepper (xs := xs) (fun w' h => IsS.up (Cls.ext h) hv0) (by kernel_rfl) rfl rfl rfl ?_ | refine W_indexR (d := 18) wkF_stepper (xs := xs) (fun w' h => IsS.up (Cls.ext h) hv0) (by kernel_rfl) rfl rfl rfl rfl (by omega) ?_ | refine W_indexO (d := 18) (s := 1) wkF_stepper (by kernel_rfl) rfl rfl rfl rfl (by omega) ?_)
  try any_goals (refine WkF_make (d := 19) (e := 3) (k := 1) (by kernel_rfl) rfl rfl rfl ⟨by omega, by omega⟩ ?_)
  try any_goals (refine WkF_copy (d := 10) rfl rfl ?_)
  try any_goals (refine WkF_copy (d := 11) rfl rfl ?_)
  try any_goals (refine WkF_two' hwr (by decide) rfl rfl (by kernel_rfl) (by kernel_rfl) (fun g1 g2 cs1 cs2 hl1 hl2 => ?_))
  try any_goals (refine Sq_nil ?_)
  try any_goals (refine G_then ?_)
  try any_goals (refine H_seq ?_)
  try any_goals (refine H_seq ?_)
  try any_goals (refine H_reg ?_)
  try any_goals (first | refine W_move (d := 20) (sq_stepper (upC_cls hF)) rfl rfl rfl ?_ | refine W_loadARC (d := 20) 2 (sq_stepper (upC_cls hF)) hz0 (by kernel_rfl) rfl rfl rfl rfl ?_ | refine W_loadARC (d := 20) 3 (sq_stepper (upC_cls hF)) hz0 (by kernel_rfl) rfl rfl rfl rfl ?_ | refine W_loadC (d := 20) 0 (sq_stepper (upC_cls hF)) (by kernel_rfl) rfl rfl rfl rfl rfl ?_ | refine W_lenR (d := 20) (sq_stepper (upC_cls hF)) (xs := xs) (fun w' h => IsS.up (Cls.ext h) hv0) (by kernel_rfl) rfl rfl rfl ?_ | refine W_indexR (d := 20) (sq_stepper (upC_cls hF)) (xs := xs) (fun w' h => IsS.up (Cls.ext h) hv0) (by kernel_rfl) rfl rfl rfl rfl (by omega) ?_ | refine W_indexO (d := 20) (s := 1) (sq_stepper (upC_cls hF)) (by kernel_rfl) rfl rfl rfl rfl (by omega) ?_)
  try any_goals (first | refine W_len (d := 21) (sq_stepper (upC_cls hF)) (by kernel_rfl) rfl rfl rfl ?_ | refine W_lenStr (d := 21) (sq_stepper (upC_cls hF)) (by kernel_rfl) rfl rfl rfl ?_ | refine W_loadARC (d := 21) 2 (sq_stepper (upC_cls hF)) hz0 (by kernel_rfl) rfl rfl rfl rfl ?_ | refine W_loadARC (d := 21) 3 (sq_stepper (upC_cls hF)) hz0 (by kernel_rfl) rfl rfl rfl rfl ?_ | refine W_loadC (d := 21) 0 (sq_stepper (upC_cls hF)) (by kernel_rfl) rfl rfl rfl rfl rfl ?_ | refine W_lenR (d := 21) (sq_stepper (upC_cls hF)) (xs := xs) (fun w' h => IsS.up (Cls.ext h) hv0) (by kernel_rfl) rfl rfl rfl ?_ | refine W_indexR (d := 21) (sq_stepper (upC_cls hF)) (xs := xs) (fun w' h => IsS.up (Cls.ext h) hv0) (by kernel_rfl) rfl rfl rfl rfl (by omega) ?_ | refine W_indexO (d := 21) (s := 1) (sq_stepper (upC_cls hF)) (by kernel_rfl) rfl rfl rfl rfl (by omega) ?_)
  try any_goals (first | refine W_move (d := 22) (sq_stepper (upC_cls hF)) rfl rfl rfl ?_ | refine W_loadARC (d := 22) 2 (sq_stepper (upC_cls hF)) hz0 (by kernel_rfl) rfl rfl rfl rfl ?_ | refine W_loadARC (d := 22) 3 (sq_stepper (upC_cls hF)) hz0 (by kernel_rfl) rfl rfl rfl rfl ?_ | refine W_loadC (d := 22) 0 (sq_stepper (upC_cls hF)) (by kernel_rfl) rfl rfl rfl rfl rfl ?_ | refine W_lenR (d := 22) (sq_stepper (upC_cls hF)) (xs := xs) (fun w' h => IsS.up (Cls.ext h) hv0) (by kernel_rfl) rfl rfl rfl ?_ | refine W_indexR (d := 22) (sq_stepper (upC_cls hF)) (xs := xs) (fun w' h => IsS.up (Cls.ext h) hv0) (by kernel_rfl) rfl rfl rfl rfl (by omega) ?_ | refine W_indexO (d := 22) (s := 1) (sq_stepper (upC_cls hF)) (by kernel_rfl) rfl rfl rfl rfl (by omega) ?_)
  try any_goals (refine Sq_nil ?_)
  try any_goals (refine G_then ?_)
  try any_goals (refine H_block ?_)
  try any_goals ((refine H_loop (σ := Nat × Int × List Value × List Value) (fun x => x.1 ≤ xs.length ∧ (x.1 = 0 → x.2.1 = l) ∧ (0 < x.1 → x.2.1 = aft xs b l p (x.1 - 1)) ∧ x.2.2.1.length = xs.length ∧ x.2.2.2.length = xs.length ∧ (∀ j, j < x.1 → x.2.2.1[j]? = some (.int .i64 (aft xs b l p j))) ∧ ∀ j, j < x.1 → x.2.2.2[j]? = some (.int .i64 (bef xs b l p j))) (fun x => [(0, .inl v0), (3, .inl v3), (5, .inl (.pointer (some ⟨g5, 0, none⟩))), (2, .inl (.int .i64 x.2.1)), (10, .inl (.slice (some ⟨g1, 0, none⟩) xs.length xs.length)), (11, .inl (.slice (some ⟨g2, 0, none⟩) xs.length xs.length)), (20, .inl v0), (21, .inl (.int .i64 xs.length)), (22, .inl (.int .i64 x.1))]) (fun x => Cls w [(some g1, 3, x.2.2.1), (some g2, 3, x.2.2.2), (some g5, 26, cs0)] fun _ => True) (fun x => xs.length - x.1) (0, l, cs1, cs2) ⟨Nat.zero_le _, fun _ => rfl, fun h => absurd h (Nat.lt_irrefl _), by simpa using hl1, by simpa using hl2, fun j hj => absurd hj (Nat.not_lt_zero _), fun j hj => absurd hj (Nat.not_lt_zero _)⟩ (fun a w' h => h.sub (by repeat (first | exact trivial | refine ⟨⟨_, rfl, fun _ _ _ h => h⟩, ?_⟩)) (fun w' h => h)) (fun x hx => ?_); obtain ⟨i, lev, ca, cb⟩ := x; obtain ⟨hi, hl0, hlp, hla, hlb', hca, hcb'⟩ := hx; simp only at hi hl0 hlp hla hlb' hca hcb'))
  try any_goals (refine H_seq ?_)
  try any_goals (refine H_reg ?_)
  try any_goals (first | refine W_cmp (d := 23) (sq_stepper (upC_cls hF)) rfl rfl rfl rfl rfl ?_ | refine W_strcmp (d := 23) (sq_stepper (upC_cls hF)) rfl rfl rfl rfl rfl ?_ | refine W_loadARC (d := 23) 2 (sq_stepper (upC_cls hF)) hz0 (by kernel_rfl) rfl rfl rfl rfl ?_ | refine W_loadARC (d := 23) 3 (sq_stepper (upC_cls hF)) hz0 (by kernel_rfl) rfl rfl rfl rfl ?_ | refine W_loadC (d := 23) 0 (sq_stepper (upC_cls hF)) (by kernel_rfl) rfl rfl rfl rfl rfl ?_ | refine W_lenR (d := 23) (sq_stepper (upC_cls hF)) (xs := xs) (fun w' h => IsS.up (Cls.ext h) hv0) (by kernel_rfl) rfl rfl rfl ?_ | refine W_indexR (d := 23) (sq_stepper (upC_cls hF)) (xs := xs) (fun w' h => IsS.up (Cls.ext h) hv0) (by kernel_rfl) rfl rfl rfl rfl (by omega) ?_ | refine W_indexO (d := 23) (s := 1) (sq_stepper (upC_cls hF)) (by kernel_rfl) rfl rfl rfl rfl (by omega) ?_)
  try any_goals (refine Sq_nil ?_)
  try any_goals (refine G_then ?_)
  try any_goals (refine H_seq ?_)
  try any_goals (first | refine H_condT rfl ?_ | refine H_condF rfl ?_ | (refine H_cond _ rfl (fun hq => ?_) (fun hq => ?_) <;> (try simp only [eq_self, not_true_eq_false, not_false_eq_true, bne_self_eq_false, Bool.false_eq_true, Bool.true_eq_false, Bool.and_eq_true, Bool.or_eq_true, Bool.or_eq_false_iff, Bool.not_not, inB_t, inB_f, decide_eq_true_eq, decide_eq_false_iff_not, Bool.not_eq_true', Bool.not_eq_false', Bool.not_eq_true, Bool.not_eq_false, Int.not_lt, Int.not_le, Nat.not_lt, Nat.not_le, reduceCtorEq] at hq)))
  try any_goals (first | ((have hu := hv.leg (i := (i : Int)) (by omega) (by omega); have hbi := hv.bef i (by omega))) | skip)
  try any_goals (first | ((have hpr := hv.prod (i := (i : Int) - 1) (by omega) (by omega); have hbf := hv.bef (i - 1) (by omega); have hu1 := hv.leg (i := (i : Int) - 1) (by omega) (by omega); have hl1 := hlp (by omega); have hcb := chg_at hv (by omega) hl1; have hlb : -200000 ≤ lev ∧ lev ≤ 10000 := aft_bd hv (by omega) hl1)) | skip)
  try any_goals (refine H_skip ?_)
  try any_goals (refine H_exit ?_)
  repeat (any_goals (first | refine G_exit_then ?_ | refine G_exit_here ?_ | refine G_exit_far rfl ?_))
  try any_goals (refine G_then ?_)
  try any_goals (refine H_seq ?_)
  try any_goals (refine H_block ?_)
  try any_goals (refine H_seq ?_)
  try any_goals (refine H_reg ?_)
  try any_goals (first | refine W_move (d := 24) (sq_stepper (upC_cls hF)) rfl rfl rfl ?_ | refine W_loadARC (d := 24) 2 (sq_stepper (upC_cls hF)) hz0 (by kernel_rfl) rfl rfl rfl rfl ?_ | refine W_loadARC (d := 24) 3 (sq_stepper (upC_cls hF)) hz0 (by kernel_rfl) rfl rfl rfl rfl ?_ | refine W_loadC (d := 24) 0 (sq_stepper (upC_cls hF)) (by kernel_rfl) rfl rfl rfl rfl rfl ?_ | refine W_lenR (d := 24) (sq_stepper (upC_cls hF)) (xs := xs) (fun w' h => IsS.up (Cls.ext h) hv0) (by kernel_rfl) rfl rfl rfl ?_ | refine W_indexR (d := 24) (sq_stepper (upC_cls hF)) (xs := xs) (fun w' h => IsS.up (Cls.ext h) hv0) (by kernel_rfl) rfl rfl rfl rfl (by omega) ?_ | refine W_indexO (d := 24) (s := 1) (sq_stepper (upC_cls hF)) (by kernel_rfl) rfl rfl rfl rfl (by omega) ?_)
  try any_goals (first | refine W_index (d := 25) (sq_stepper (upC_cls hF)) (by kernel_rfl) rfl rfl rfl rfl (by first | omega | (dsimp only; omega)) ?_ | refine W_loadARC (d := 25) 2 (sq_stepper (upC_cls hF)) hz0 (by kernel_rfl) rfl rfl rfl rfl ?_ | refine W_loadARC (d := 25) 3 (sq_stepper (upC_cls hF)) hz0 (by kernel_rfl) rfl rfl rfl rfl ?_ | refine W_loadC (d := 25) 0 (sq_stepper (upC_cls hF)) (by kernel_rfl) rfl rfl rfl rfl rfl ?_ | refine W_lenR (d := 25) (sq_stepper (upC_cls hF)) (xs := xs) (fun w' h => IsS.up (Cls.ext h) hv0) (by kernel_rfl) rfl rfl rfl ?_ | refine W_indexR (d := 25) (sq_stepper (upC_cls hF)) (xs := xs) (fun w' h => IsS.up (Cls.ext h) hv0) (by kernel_rfl) rfl rfl rfl rfl (by omega) ?_ | refine W_indexO (d := 25) (s := 1) (sq_stepper (upC_cls hF)) (by kernel_rfl) rfl rfl rfl rfl (by omega) ?_)
  try any_goals (first | refine W_loadAV (d := 26) (sq_stepper (upC_cls hF)) _ leg_det (by kernel_rfl) rfl rfl rfl ?_ | refine W_loadI (d := 26) (sq_stepper (upC_cls hF)) (by kernel_rfl) rfl rfl rfl ?_ | refine W_loadB (d := 26) (sq_stepper (upC_cls hF)) (by kernel_rfl) rfl rfl rfl ?_ | refine W_loadStr (d := 26) (sq_stepper (upC_cls hF)) (by kernel_rfl) rfl rfl rfl ?_ | refine W_loadS (d := 26) (sq_stepper (upC_cls hF)) (by kernel_rfl) rfl rfl rfl ?_ | refine W_loadA (d := 26) (sq_stepper (upC_cls hF)) (by kernel_rfl) rfl rfl rfl ?_ | refine W_loadARC (d := 26) 2 (sq_stepper (upC_cls hF)) hz0 (by kernel_rfl) rfl rfl rfl rfl ?_ | refine W_loadARC (d := 26) 3 (sq_stepper (upC_cls hF)) hz0 (by kernel_rfl) rfl rfl rfl rfl ?_ | refine W_loadC (d := 26) 0 (sq_stepper (upC_cls hF)) (by kernel_rfl) rfl rfl rfl rfl rfl ?_ | refine W_lenR (d := 26) (sq_stepper (upC_cls hF)) (xs := xs) (fun w' h => IsS.up (Cls.ext h) hv0) (by kernel_rfl) rfl rfl rfl ?_ | refine W_indexR (d := 26) (sq_stepper (upC_cls hF)) (xs := xs) (fun w' h => IsS.up (Cls.ext h) hv0) (by kernel_rfl) rfl rfl rfl rfl (by omega) ?_ | refine W_indexO (d := 26) (s := 1) (sq_stepper (upC_cls hF)) (by kernel_rfl) rfl rfl rfl rfl (by omega) ?_)
  try any_goals (refine Sq_allocC (d := 13) (n := 3) hF (by kernel_rfl) rfl (fun g13 cs13 hl13 hlo13 => ?_); obtain ⟨c13x0, c13x1, c13x2, rfl⟩ := len3 hl13)
  try any_goals (first | refine W_assign (d := 12) (sq_stepper (upC_cls hF)) rfl rfl rfl ?_ | refine W_loadARC (d := 12) 2 (sq_stepper (upC_cls hF)) hz0 (by kernel_rfl) rfl rfl rfl rfl ?_ | refine W_loadARC (d := 12) 3 (sq_stepper (upC_cls hF)) hz0 (by kernel_rfl) rfl rfl rfl rfl ?_ | refine W_loadC (d := 12) 0 (sq_stepper (upC_cls hF)) (by kernel_rfl) rfl rfl rfl rfl rfl ?_ | refine W_lenR (d := 12) (sq_stepper (upC_cls hF)) (xs := xs) (fun w' h => IsS.up (Cls.ext h) hv0) (by kernel_rfl) rfl rfl rfl ?_ | refine W_indexR (d := 12) (sq_stepper (upC_cls hF)) (xs := xs) (fun w' h => IsS.up (Cls.ext h) hv0) (by kernel_rfl) rfl rfl rfl rfl (by omega) ?_ | refine W_indexO (d := 12) (s := 1) (sq_stepper (upC_cls hF)) (by kernel_rfl) rfl rfl rfl rfl (by omega) ?_)
  try any_goals (refine Sq_storeAg 0 (k := 3) (by kernel_rfl) rfl rfl rfl (fun _ _ u hu => by simp at hu; rcases hu with rfl | rfl | rfl <;> rfl) rfl (by rw [hl13]; exact Nat.le_refl _) stF_true ?_)
  try any_goals (refine Sq_nil ?_)
  try any_goals (refine G_then ?_)
  try any_goals (refine H_seq ?_)
  try any_goals (refine H_seq ?_)
  try any_goals (refine H_reg ?_)
  try any_goals (first | refine W_move (d := 27) (sq_stepper (upC_cls hF)) rfl rfl rfl ?_ | refine W_loadARC (d := 27) 2 (sq_stepper (upC_cls hF)) hz0 (by kernel_rfl) rfl rfl rfl rfl ?_ | refine W_loadARC (d := 27) 3 (sq_stepper (upC_cls hF)) hz0 (by kernel_rfl) rfl rfl rfl rfl ?_ | refine W_loadC (d := 27) 0 (sq_stepper (upC_cls hF)) (by kernel_rfl) rfl rfl rfl rfl rfl ?_ | refine W_lenR (d := 27) (sq_stepper (upC_cls hF)) (xs := xs) (fun w' h => IsS.up (Cls.ext h) hv0) (by kernel_rfl) rfl rfl rfl ?_ | refine W_indexR (d := 27) (sq_stepper (upC_cls hF)) (xs := xs) (fun w' h => IsS.up (Cls.ext h) hv0) (by kernel_rfl) rfl rfl rfl rfl (by omega) ?_ | refine W_indexO (d := 27) (s := 1) (sq_stepper (upC_cls hF)) (by kernel_rfl) rfl rfl rfl rfl (by omega) ?_)
  try any_goals (first | refine W_cmp (d := 28) (sq_stepper (upC_cls hF)) rfl rfl rfl rfl rfl ?_ | refine W_strcmp (d := 28) (sq_stepper (upC_cls hF)) rfl rfl rfl rfl rfl ?_ | refine W_loadARC (d := 28) 2 (sq_stepper (upC_cls hF)) hz0 (by kernel_rfl) rfl rfl rfl rfl ?_ | refine W_loadARC (d := 28) 3 (sq_stepper (upC_cls hF)) hz0 (by kernel_rfl) rfl rfl rfl rfl ?_ | refine W_loadC (d := 28) 0 (sq_stepper (upC_cls hF)) (by kernel_rfl) rfl rfl rfl rfl rfl ?_ | refine W_lenR (d := 28) (sq_stepper (upC_cls hF)) (xs := xs) (fun w' h => IsS.up (Cls.ext h) hv0) (by kernel_rfl) rfl rfl rfl ?_ | refine W_indexR (d := 28) (sq_stepper (upC_cls hF)) (xs := xs) (fun w' h => IsS.up (Cls.ext h) hv0) (by kernel_rfl) rfl rfl rfl rfl (by omega) ?_ | refine W_indexO (d := 28) (s := 1) (sq_stepper (upC_cls hF)) (by kernel_rfl) rfl rfl rfl rfl (by omega) ?_)
  try any_goals (refine Sq_nil ?_)
  try any_goals (refine G_then ?_)
  try any_goals (first | refine H_condT rfl ?_ | refine H_condF rfl ?_ | (refine H_cond _ rfl (fun hq => ?_) (fun hq => ?_) <;> (try simp only [eq_self, not_true_eq_false, not_false_eq_true, bne_self_eq_false, Bool.false_eq_true, Bool.true_eq_false, Bool.and_eq_true, Bool.or_eq_true, Bool.or_eq_false_iff, Bool.not_not, inB_t, inB_f, decide_eq_true_eq, decide_eq_false_iff_not, Bool.not_eq_true', Bool.not_eq_false', Bool.not_eq_true, Bool.not_eq_false, Int.not_lt, Int.not_le, Nat.not_lt, Nat.not_le, reduceCtorEq] at hq)))
  try any_goals (first | ((have hu := hv.leg (i := (i : Int)) (by omega) (by omega); have hbi := hv.bef i (by omega))) | skip)
  try any_goals (first | ((have hpr := hv.prod (i := (i : Int) - 1) (by omega) (by omega); have hbf := hv.bef (i - 1) (by omega); have hu1 := hv.leg (i := (i : Int) - 1) (by omega) (by omega); have hl1 := hlp (by omega); have hcb := chg_at hv (by omega) hl1; have hlb : -200000 ≤ lev ∧ lev ≤ 10000 := aft_bd hv (by omega) hl1)) | skip)
  try any_goals (refine H_draw' (by kernel_rfl) (upC_cls hF) ?_)
  try any_goals (first | refine W_loadAV (d := 29) wk_stepper _ leg_det (by kernel_rfl) rfl rfl rfl ?_ | refine W_loadI (d := 29) wk_stepper (by kernel_rfl) rfl rfl rfl ?_ | refine W_loadB (d := 29) wk_stepper (by kernel_rfl) rfl rfl rfl ?_ | refine W_loadStr (d := 29) wk_stepper (by kernel_rfl) rfl rfl rfl ?_ | refine W_loadS (d := 29) wk_stepper (by kernel_rfl) rfl rfl rfl ?_ | refine W_loadA (d := 29) wk_stepper (by kernel_rfl) rfl rfl rfl ?_ | refine W_loadARC (d := 29) 2 wk_stepper hz0 (by kernel_rfl) rfl rfl rfl rfl ?_ | refine W_loadARC (d := 29) 3 wk_stepper hz0 (by kernel_rfl) rfl rfl rfl rfl ?_ | refine W_loadC (d := 29) 0 wk_stepper (by kernel_rfl) rfl rfl rfl rfl rfl ?_ | refine W_lenR (d := 29) wk_stepper (xs := xs) (fun w' h => IsS.up (Cls.ext h) hv0) (by kernel_rfl) rfl rfl rfl ?_ | refine W_indexR (d := 29) wk_stepper (xs := xs) (fun w' h => IsS.up (Cls.ext h) hv0) (by kernel_rfl) rfl rfl rfl rfl (by omega) ?_ | refine W_indexO (d := 29) (s := 1) wk_stepper (by kernel_rfl) rfl rfl rfl rfl (by omega) ?_)
  try any_goals (first | refine W_move (d := 30) wk_stepper rfl rfl rfl ?_ | refine W_loadARC (d := 30) 2 wk_stepper hz0 (by kernel_rfl) rfl rfl rfl rfl ?_ | refine W_loadARC (d := 30) 3 wk_stepper hz0 (by kernel_rfl) rfl rfl rfl rfl ?_ | refine W_loadC (d := 30) 0 wk_stepper (by kernel_rfl) rfl rfl rfl rfl rfl ?_ | refine W_lenR (d := 30) wk_stepper (xs := xs) (fun w' h => IsS.up (Cls.ext h) hv0) (by kernel_rfl) rfl rfl rfl ?_ | refine W_indexR (d := 30) wk_stepper (xs := xs) (fun w' h => IsS.up (Cls.ext h) hv0) (by kernel_rfl) rfl rfl rfl rfl (by omega) ?_ | refine W_indexO (d := 30) (s := 1) wk_stepper (by kernel_rfl) rfl rfl rfl rfl (by omega) ?_)
  try any_goals (first | refine W_moveR (d := 31) wk_stepper (U := uS e2 pI p) (fun w' h => IsS.up (Cls.ext h) hv3) rfl rfl rfl ?_ | refine W_move (d := 31) wk_stepper rfl rfl rfl ?_ | refine W_loadARC (d := 31) 2 wk_stepper hz0 (by kernel_rfl) rfl rfl rfl rfl ?_ | refine W_loadARC (d := 31) 3 wk_stepper hz0 (by kernel_rfl) rfl rfl rfl rfl ?_ | refine W_loadC (d := 31) 0 wk_stepper (by kernel_rfl) rfl rfl rfl rfl rfl ?_ | refine W_lenR (d := 31) wk_stepper (xs := xs) (fun w' h => IsS.up (Cls.ext h) hv0) (by kernel_rfl) rfl rfl rfl ?_ | refine W_indexR (d := 31) wk_stepper (xs := xs) (fun w' h => IsS.up (Cls.ext h) hv0) (by kernel_rfl) rfl rfl rfl rfl (by omega) ?_ | refine W_indexO (d := 31) (s := 1) wk_stepper (by kernel_rfl) rfl rfl rfl rfl (by omega) ?_)
  try any_goals (first | refine W_move (d := 32) wk_stepper rfl rfl rfl ?_ | refine W_loadARC (d := 32) 2 wk_stepper hz0 (by kernel_rfl) rfl rfl rfl rfl ?_ | refine W_loadARC (d := 32) 3 wk_stepper hz0 (by kernel_rfl) rfl rfl rfl rfl ?_ | refine W_loadC (d := 32) 0 wk_stepper (by kernel_rfl) rfl rfl rfl rfl rfl ?_ | refine W_lenR (d := 32) wk_stepper (xs := xs) (fun w' h => IsS.up (Cls.ext h) hv0) (by kernel_rfl) rfl rfl rfl ?_ | refine W_indexR (d := 32) wk_stepper (xs := xs) (fun w' h => IsS.up (Cls.ext h) hv0) (by kernel_rfl) rfl rfl rfl rfl (by omega) ?_ | refine W_indexO (d := 32) (s := 1) wk_stepper (by kernel_rfl) rfl rfl rfl rfl (by omega) ?_)
  try any_goals (first | refine W_ar (d := 33) wk_stepper rfl rfl rfl rfl rfl (by first | omega | (dsimp only; omega)) ?_ | refine W_loadARC (d := 33) 2 wk_stepper hz0 (by kernel_rfl) rfl rfl rfl rfl ?_ | refine W_loadARC (d := 33) 3 wk_stepper hz0 (by kernel_rfl) rfl rfl rfl rfl ?_ | refine W_loadC (d := 33) 0 wk_stepper (by kernel_rfl) rfl rfl rfl rfl rfl ?_ | refine W_lenR (d := 33) wk_stepper (xs := xs) (fun w' h => IsS.up (Cls.ext h) hv0) (by kernel_rfl) rfl rfl rfl ?_ | refine W_indexR (d := 33) wk_stepper (xs := xs) (fun w' h => IsS.up (Cls.ext h) hv0) (by kernel_rfl) rfl rfl rfl rfl (by omega) ?_ | refine W_indexO (d := 33) (s := 1) wk_stepper (by kernel_rfl) rfl rfl rfl rfl (by omega) ?_)
  try any_goals (first | refine W_index (d := 34) wk_stepper (by kernel_rfl) rfl rfl rfl rfl (by first | omega | (dsimp only; omega)) ?_ | refine W_loadARC (d := 34) 2 wk_stepper hz0 (by kernel_rfl) rfl rfl rfl rfl ?_ | refine W_loadARC (d := 34) 3 wk_stepper hz0 (by kernel_rfl) rfl rfl rfl rfl ?_ | refine W_loadC (d := 34) 0 wk_stepper (by kernel_rfl) rfl rfl rfl rfl rfl ?_ | refine W_lenR (d := 34) wk_stepper (xs := xs) (fun w' h => IsS.up (Cls.ext h) hv0) (by kernel_rfl) rfl rfl rfl ?_ | refine W_indexR (d := 34) wk_stepper (xs := xs) (fun w' h => IsS.up (Cls.ext h) hv0) (by kernel_rfl) rfl rfl rfl rfl (by omega) ?_ | refine W_indexO (d := 34) (s := 1) wk_stepper (by kernel_rfl) rfl rfl rfl rfl (by omega) ?_)
  try any_goals (first | refine W_loadAV (d := 35) wk_stepper _ leg_det (by kernel_rfl) rfl rfl rfl ?_ | refine W_loadI (d := 35) wk_stepper (by kernel_rfl) rfl rfl rfl ?_ | refine W_loadB (d := 35) wk_stepper (by kernel_rfl) rfl rfl rfl ?_ | refine W_loadStr (d := 35) wk_stepper (by kernel_rfl) rfl rfl rfl ?_ | refine W_loadS (d := 35) wk_stepper (by kernel_rfl) rfl rfl rfl ?_ | refine W_loadA (d := 35) wk_stepper (by kernel_rfl) rfl rfl rfl ?_ | refine W_loadARC (d := 35) 2 wk_stepper hz0 (by kernel_rfl) rfl rfl rfl rfl ?_ | refine W_loadARC (d := 35) 3 wk_stepper hz0 (by kernel_rfl) rfl rfl rfl rfl ?_ | refine W_loadC (d := 35) 0 wk_stepper (by kernel_rfl) rfl rfl rfl rfl rfl ?_ | refine W_lenR (d := 35) wk_stepper (xs := xs) (fun w' h => IsS.up (Cls.ext h) hv0) (by kernel_rfl) rfl rfl rfl ?_ | refine W_indexR (d := 35) wk_stepper (xs := xs) (fun w' h => IsS.up (Cls.ext h) hv0) (by kernel_rfl) rfl rfl rfl rfl (by omega) ?_ | refine W_indexO (d := 35) (s := 1) wk_stepper (by kernel_rfl) rfl rfl rfl rfl (by omega) ?_)
  try any_goals (first | refine W_ct (d := 36) wk_stepper (ct_charge _ _ _ ⟨hpr.1, hpr.2.1⟩ hlb) rfl rfl rfl (by kernel_rfl) ?_ | refine W_loadARC (d := 36) 2 wk_stepper hz0 (by kernel_rfl) rfl rfl rfl rfl ?_ | refine W_loadARC (d := 36) 3 wk_stepper hz0 (by kernel_rfl) rfl rfl rfl rfl ?_ | refine W_loadC (d := 36) 0 wk_stepper (by kernel_rfl) rfl rfl rfl rfl rfl ?_ | refine W_lenR (d := 36) wk_stepper (xs := xs) (fun w' h => IsS.up (Cls.ext h) hv0) (by kernel_rfl) rfl rfl rfl ?_ | refine W_indexR (d := 36) wk_stepper (xs := xs) (fun w' h => IsS.up (Cls.ext h) hv0) (by kernel_rfl) rfl rfl rfl rfl (by omega) ?_ | refine W_indexO (d := 36) (s := 1) wk_stepper (by kernel_rfl) rfl rfl rfl rfl (by omega) ?_)
  try any_goals (refine Wk_assign (by kernel_rfl) (by kernel_rfl) ?_)
  try any_goals (first | refine W_assign (d := 2) (sq_stepper (upC_cls hF)) rfl rfl rfl ?_ | refine W_loadARC (d := 2) 2 (sq_stepper (upC_cls hF)) hz0 (by kernel_rfl) rfl rfl rfl rfl ?_ | refine W_loadARC (d := 2) 3 (sq_stepper (upC_cls hF)) hz0 (by kernel_rfl) rfl rfl rfl rfl ?_ | refine W_loadC (d := 2) 0 (sq_stepper (upC_cls hF)) (by kernel_rfl) rfl rfl rfl rfl rfl ?_ | refine W_lenR (d := 2) (sq_stepper (upC_cls hF)) (xs := xs) (fun w' h => IsS.up (Cls.ext h) hv0) (by kernel_rfl) rfl rfl rfl ?_ | refine W_indexR (d := 2) (sq_stepper (upC_cls hF)) (xs := xs) (fun w' h => IsS.up (Cls.ext h) hv0) (by kernel_rfl) rfl rfl rfl rfl (by omega) ?_ | refine W_indexO (d := 2) (s := 1) (sq_stepper (upC_cls hF)) (by kernel_rfl) rfl rfl rfl rfl (by omega) ?_)
  try any_goals (refine Sq_nil ?_)
  try any_goals (refine H_skip ?_)
  try any_goals (refine G_then ?_)
  try any_goals (refine H_seq ?_)
  try any_goals (refine H_reg ?_)
  try any_goals (first | refine W_move (d := 37) (sq_stepper (upC_cls hF)) rfl rfl rfl ?_ | refine W_loadARC (d := 37) 2 (sq_stepper (upC_cls hF)) hz0 (by kernel_rfl) rfl rfl rfl rfl ?_ | refine W_loadARC (d := 37) 3 (sq_stepper (upC_cls hF)) hz0 (by kernel_rfl) rfl rfl rfl rfl ?_ | refine W_loadC (d := 37) 0 (sq_stepper (upC_cls hF)) (by kernel_rfl) rfl rfl rfl rfl rfl ?_ | refine W_lenR (d := 37) (sq_stepper (upC_cls hF)) (xs := xs) (fun w' h => IsS.up (Cls.ext h) hv0) (by kernel_rfl) rfl rfl rfl ?_ | refine W_indexR (d := 37) (sq_stepper (upC_cls hF)) (xs := xs) (fun w' h => IsS.up (Cls.ext h) hv0) (by kernel_rfl) rfl rfl rfl rfl (by omega) ?_ | refine W_indexO (d := 37) (s := 1) (sq_stepper (upC_cls hF)) (by kernel_rfl) rfl rfl rfl rfl (by omega) ?_)
  try any_goals (first | refine W_move (d := 38) (sq_stepper (upC_cls hF)) rfl rfl rfl ?_ | refine W_loadARC (d := 38) 2 (sq_stepper (upC_cls hF)) hz0 (by kernel_rfl) rfl rfl rfl rfl ?_ | refine W_loadARC (d := 38) 3 (sq_stepper (upC_cls hF)) hz0 (by kernel_rfl) rfl rfl rfl rfl ?_ | refine W_loadC (d := 38) 0 (sq_stepper (upC_cls hF)) (by kernel_rfl) rfl rfl rfl rfl rfl ?_ | refine W_lenR (d := 38) (sq_stepper (upC_cls hF)) (xs := xs) (fun w' h => IsS.up (Cls.ext h) hv0) (by kernel_rfl) rfl rfl rfl ?_ | refine W_indexR (d := 38) (sq_stepper (upC_cls hF)) (xs := xs) (fun w' h => IsS.up (Cls.ext h) hv0) (by kernel_rfl) rfl rfl rfl rfl (by omega) ?_ | refine W_indexO (d := 38) (s := 1) (sq_stepper (upC_cls hF)) (by kernel_rfl) rfl rfl rfl rfl (by omega) ?_)
  try any_goals (first | refine W_move (d := 39) (sq_stepper (upC_cls hF)) rfl rfl rfl ?_ | refine W_loadARC (d := 39) 2 (sq_stepper (upC_cls hF)) hz0 (by kernel_rfl) rfl rfl rfl rfl ?_ | refine W_loadARC (d := 39) 3 (sq_stepper (upC_cls hF)) hz0 (by kernel_rfl) rfl rfl rfl rfl ?_ | refine W_loadC (d := 39) 0 (sq_stepper (upC_cls hF)) (by kernel_rfl) rfl rfl rfl rfl rfl ?_ | refine W_lenR (d := 39) (sq_stepper (upC_cls hF)) (xs := xs) (fun w' h => IsS.up (Cls.ext h) hv0) (by kernel_rfl) rfl rfl rfl ?_ | refine W_indexR (d := 39) (sq_stepper (upC_cls hF)) (xs := xs) (fun w' h => IsS.up (Cls.ext h) hv0) (by kernel_rfl) rfl rfl rfl rfl (by omega) ?_ | refine W_indexO (d := 39) (s := 1) (sq_stepper (upC_cls hF)) (by kernel_rfl) rfl rfl rfl rfl (by omega) ?_)
  try any_goals (first | refine W_index (d := 40) (sq_stepper (upC_cls hF)) (by kernel_rfl) rfl rfl rfl rfl (by first | omega | (dsimp only; omega)) ?_ | refine W_loadARC (d := 40) 2 (sq_stepper (upC_cls hF)) hz0 (by kernel_rfl) rfl rfl rfl rfl ?_ | refine W_loadARC (d := 40) 3 (sq_stepper (upC_cls hF)) hz0 (by kernel_rfl) rfl rfl rfl rfl ?_ | refine W_loadC (d := 40) 0 (sq_stepper (upC_cls hF)) (by kernel_rfl) rfl rfl rfl rfl rfl ?_ | refine W_lenR (d := 40) (sq_stepper (upC_cls hF)) (xs := xs) (fun w' h => IsS.up (Cls.ext h) hv0) (by kernel_rfl) rfl rfl rfl ?_ | refine W_indexR (d := 40) (sq_stepper (upC_cls hF)) (xs := xs) (fun w' h => IsS.up (Cls.ext h) hv0) (by kernel_rfl) rfl rfl rfl rfl (by omega) ?_ | refine W_indexO (d := 40) (s := 1) (sq_stepper (upC_cls hF)) (by kernel_rfl) rfl rfl rfl rfl (by omega) ?_)
  try any_goals (refine Sq_storeV 2 (by kernel_rfl) rfl rfl rfl rfl (by simp only [Int.toNat_natCast]; omega) stF_true ?_)
  try any_goals (refine Sq_nil ?_)
  try any_goals (refine G_then ?_)
  try any_goals (refine H_seq ?_)
  try any_goals (refine H_reg ?_)
  try any_goals (first | refine W_move (d := 41) (sq_stepper (upC_cls hF)) rfl rfl rfl ?_ | refine W_loadARC (d := 41) 2 (sq_stepper (upC_cls hF)) hz0 (by kernel_rfl) rfl rfl rfl rfl ?_ | refine W_loadARC (d := 41) 3 (sq_stepper (upC_cls hF)) hz0 (by kernel_rfl) rfl rfl rfl rfl ?_ | refine W_loadC (d := 41) 0 (sq_stepper (upC_cls hF)) (by kernel_rfl) rfl rfl rfl rfl rfl ?_ | refine W_lenR (d := 41) (sq_stepper (upC_cls hF)) (xs := xs) (fun w' h => IsS.up (Cls.ext h) hv0) (by kernel_rfl) rfl rfl rfl ?_ | refine W_indexR (d := 41) (sq_stepper (upC_cls hF)) (xs := xs) (fun w' h => IsS.up (Cls.ext h) hv0) (by kernel_rfl) rfl rfl rfl rfl (by omega) ?_ | refine W_indexO (d := 41) (s := 1) (sq_stepper (upC_cls hF)) (by kernel_rfl) rfl rfl rfl rfl (by omega) ?_)
  try any_goals (first | refine W_fieldG (d := 42) (sq_stepper (upC_cls hF)) (Proj.tail _ _ (Proj.tail _ _ (Proj.head _ _ _))) (by kernel_rfl) rfl rfl rfl ?_ | refine W_fieldC (d := 42) (sq_stepper (upC_cls hF)) (off := 2) (by kernel_rfl) rfl rfl rfl ?_ | refine W_loadARC (d := 42) 2 (sq_stepper (upC_cls hF)) hz0 (by kernel_rfl) rfl rfl rfl rfl ?_ | refine W_loadARC (d := 42) 3 (sq_stepper (upC_cls hF)) hz0 (by kernel_rfl) rfl rfl rfl rfl ?_ | refine W_loadC (d := 42) 0 (sq_stepper (upC_cls hF)) (by kernel_rfl) rfl rfl rfl rfl rfl ?_ | refine W_lenR (d := 42) (sq_stepper (upC_cls hF)) (xs := xs) (fun w' h => IsS.up (Cls.ext h) hv0) (by kernel_rfl) rfl rfl rfl ?_ | refine W_indexR (d := 42) (sq_stepper (upC_cls hF)) (xs := xs) (fun w' h => IsS.up (Cls.ext h) hv0) (by kernel_rfl) rfl rfl rfl rfl (by omega) ?_ | refine W_indexO (d := 42) (s := 1) (sq_stepper (upC_cls hF)) (by kernel_rfl) rfl rfl rfl rfl (by omega) ?_)
  try any_goals (first | refine W_loadAV (d := 43) (sq_stepper (upC_cls hF)) _ leg_det (by kernel_rfl) rfl rfl rfl ?_ | refine W_loadI (d := 43) (sq_stepper (upC_cls hF)) (by kernel_rfl) rfl rfl rfl ?_ | refine W_loadB (d := 43) (sq_stepper (upC_cls hF)) (by kernel_rfl) rfl rfl rfl ?_ | refine W_loadStr (d := 43) (sq_stepper (upC_cls hF)) (by kernel_rfl) rfl rfl rfl ?_ | refine W_loadS (d := 43) (sq_stepper (upC_cls hF)) (by kernel_rfl) rfl rfl rfl ?_ | refine W_loadA (d := 43) (sq_stepper (upC_cls hF)) (by kernel_rfl) rfl rfl rfl ?_ | refine W_loadARC (d := 43) 2 (sq_stepper (upC_cls hF)) hz0 (by kernel_rfl) rfl rfl rfl rfl ?_ | refine W_loadARC (d := 43) 3 (sq_stepper (upC_cls hF)) hz0 (by kernel_rfl) rfl rfl rfl rfl ?_ | refine W_loadC (d := 43) 0 (sq_stepper (upC_cls hF)) (by kernel_rfl) rfl rfl rfl rfl rfl ?_ | refine W_lenR (d := 43) (sq_stepper (upC_cls hF)) (xs := xs) (fun w' h => IsS.up (Cls.ext h) hv0) (by kernel_rfl) rfl rfl rfl ?_ | refine W_indexR (d := 43) (sq_stepper (upC_cls hF)) (xs := xs) (fun w' h => IsS.up (Cls.ext h) hv0) (by kernel_rfl) rfl rfl rfl rfl (by omega) ?_ | refine W_indexO (d := 43) (s := 1) (sq_stepper (upC_cls hF)) (by kernel_rfl) rfl rfl rfl rfl (by omega) ?_)
  try any_goals (first | refine W_ar (d := 44) (sq_stepper (upC_cls hF)) rfl rfl rfl rfl rfl (by first | omega | (dsimp only; omega)) ?_ | refine W_loadARC (d := 44) 2 (sq_stepper (upC_cls hF)) hz0 (by kernel_rfl) rfl rfl rfl rfl ?_ | refine W_loadARC (d := 44) 3 (sq_stepper (upC_cls hF)) hz0 (by kernel_rfl) rfl rfl rfl rfl ?_ | refine W_loadC (d := 44) 0 (sq_stepper (upC_cls hF)) (by kernel_rfl) rfl rfl rfl rfl rfl ?_ | refine W_lenR (d := 44) (sq_stepper (upC_cls hF)) (xs := xs) (fun w' h => IsS.up (Cls.ext h) hv0) (by kernel_rfl) rfl rfl rfl ?_ | refine W_indexR (d := 44) (sq_stepper (upC_cls hF)) (xs := xs) (fun w' h => IsS.up (Cls.ext h) hv0) (by kernel_rfl) rfl rfl rfl rfl (by omega) ?_ | refine W_indexO (d := 44) (s := 1) (sq_stepper (upC_cls hF)) (by kernel_rfl) rfl rfl rfl rfl (by omega) ?_)
  try any_goals (first | refine W_assign (d := 2) (sq_stepper (upC_cls hF)) rfl rfl rfl ?_ | refine W_loadARC (d := 2) 2 (sq_stepper (upC_cls hF)) hz0 (by kernel_rfl) rfl rfl rfl rfl ?_ | refine W_loadARC (d := 2) 3 (sq_stepper (upC_cls hF)) hz0 (by kernel_rfl) rfl rfl rfl rfl ?_ | refine W_loadC (d := 2) 0 (sq_stepper (upC_cls hF)) (by kernel_rfl) rfl rfl rfl rfl rfl ?_ | refine W_lenR (d := 2) (sq_stepper (upC_cls hF)) (xs := xs) (fun w' h => IsS.up (Cls.ext h) hv0) (by kernel_rfl) rfl rfl rfl ?_ | refine W_indexR (d := 2) (sq_stepper (upC_cls hF)) (xs := xs) (fun w' h => IsS.up (Cls.ext h) hv0) (by kernel_rfl) rfl rfl rfl rfl (by omega) ?_ | refine W_indexO (d := 2) (s := 1) (sq_stepper (upC_cls hF)) (by kernel_rfl) rfl rfl rfl rfl (by omega) ?_)
  try any_goals (refine Sq_nil ?_)
  try any_goals (refine G_then ?_)
  try any_goals (refine H_reg ?_)
  try any_goals (first | refine W_move (d := 45) (sq_stepper (upC_cls hF)) rfl rfl rfl ?_ | refine W_loadARC (d := 45) 2 (sq_stepper (upC_cls hF)) hz0 (by kernel_rfl) rfl rfl rfl rfl ?_ | refine W_loadARC (d := 45) 3 (sq_stepper (upC_cls hF)) hz0 (by kernel_rfl) rfl rfl rfl rfl ?_ | refine W_loadC (d := 45) 0 (sq_stepper (upC_cls hF)) (by kernel_rfl) rfl rfl rfl rfl rfl ?_ | refine W_lenR (d := 45) (sq_stepper (upC_cls hF)) (xs := xs) (fun w' h => IsS.up (Cls.ext h) hv0) (by kernel_rfl) rfl rfl rfl ?_ | refine W_indexR (d := 45) (sq_stepper (upC_cls hF)) (xs := xs) (fun w' h => IsS.up (Cls.ext h) hv0) (by kernel_rfl) rfl rfl rfl rfl (by omega) ?_ | refine W_indexO (d := 45) (s := 1) (sq_stepper (upC_cls hF)) (by kernel_rfl) rfl rfl rfl rfl (by omega) ?_)
  try any_goals (first | refine W_move (d := 46) (sq_stepper (upC_cls hF)) rfl rfl rfl ?_ | refine W_loadARC (d := 46) 2 (sq_stepper (upC_cls hF)) hz0 (by kernel_rfl) rfl rfl rfl rfl ?_ | refine W_loadARC (d := 46) 3 (sq_stepper (upC_cls hF)) hz0 (by kernel_rfl) rfl rfl rfl rfl ?_ | refine W_loadC (d := 46) 0 (sq_stepper (upC_cls hF)) (by kernel_rfl) rfl rfl rfl rfl rfl ?_ | refine W_lenR (d := 46) (sq_stepper (upC_cls hF)) (xs := xs) (fun w' h => IsS.up (Cls.ext h) hv0) (by kernel_rfl) rfl rfl rfl ?_ | refine W_indexR (d := 46) (sq_stepper (upC_cls hF)) (xs := xs) (fun w' h => IsS.up (Cls.ext h) hv0) (by kernel_rfl) rfl rfl rfl rfl (by omega) ?_ | refine W_indexO (d := 46) (s := 1) (sq_stepper (upC_cls hF)) (by kernel_rfl) rfl rfl rfl rfl (by omega) ?_)
  try any_goals (first | refine W_move (d := 47) (sq_stepper (upC_cls hF)) rfl rfl rfl ?_ | refine W_loadARC (d := 47) 2 (sq_stepper (upC_cls hF)) hz0 (by kernel_rfl) rfl rfl rfl rfl ?_ | refine W_loadARC (d := 47) 3 (sq_stepper (upC_cls hF)) hz0 (by kernel_rfl) rfl rfl rfl rfl ?_ | refine W_loadC (d := 47) 0 (sq_stepper (upC_cls hF)) (by kernel_rfl) rfl rfl rfl rfl rfl ?_ | refine W_lenR (d := 47) (sq_stepper (upC_cls hF)) (xs := xs) (fun w' h => IsS.up (Cls.ext h) hv0) (by kernel_rfl) rfl rfl rfl ?_ | refine W_indexR (d := 47) (sq_stepper (upC_cls hF)) (xs := xs) (fun w' h => IsS.up (Cls.ext h) hv0) (by kernel_rfl) rfl rfl rfl rfl (by omega) ?_ | refine W_indexO (d := 47) (s := 1) (sq_stepper (upC_cls hF)) (by kernel_rfl) rfl rfl rfl rfl (by omega) ?_)
  try any_goals (first | refine W_index (d := 48) (sq_stepper (upC_cls hF)) (by kernel_rfl) rfl rfl rfl rfl (by first | omega | (dsimp only; omega)) ?_ | refine W_loadARC (d := 48) 2 (sq_stepper (upC_cls hF)) hz0 (by kernel_rfl) rfl rfl rfl rfl ?_ | refine W_loadARC (d := 48) 3 (sq_stepper (upC_cls hF)) hz0 (by kernel_rfl) rfl rfl rfl rfl ?_ | refine W_loadC (d := 48) 0 (sq_stepper (upC_cls hF)) (by kernel_rfl) rfl rfl rfl rfl rfl ?_ | refine W_lenR (d := 48) (sq_stepper (upC_cls hF)) (xs := xs) (fun w' h => IsS.up (Cls.ext h) hv0) (by kernel_rfl) rfl rfl rfl ?_ | refine W_indexR (d := 48) (sq_stepper (upC_cls hF)) (xs := xs) (fun w' h => IsS.up (Cls.ext h) hv0) (by kernel_rfl) rfl rfl rfl rfl (by omega) ?_ | refine W_indexO (d := 48) (s := 1) (sq_stepper (upC_cls hF)) (by kernel_rfl) rfl rfl rfl rfl (by omega) ?_)
  try any_goals (refine Sq_storeV 1 (by kernel_rfl) rfl rfl rfl rfl (by simp only [Int.toNat_natCast]; omega) stF_true ?_)
  try any_goals (refine Sq_nil ?_)
  repeat (any_goals (first | refine G_exit_then ?_ | refine G_exit_here ?_ | refine G_exit_far rfl ?_ | refine G_normal_block ?_))
  try any_goals (refine G_then ?_)
  try any_goals (refine H_reg ?_)
  try any_goals (first | refine W_ar (d := 49) (sq_stepper (upC_cls hF)) rfl rfl rfl rfl rfl (by first | omega | (dsimp only; omega)) ?_ | refine W_loadARC (d := 49) 2 (sq_stepper (upC_cls hF)) hz0 (by kernel_rfl) rfl rfl rfl rfl ?_ | refine W_loadARC (d := 49) 3 (sq_stepper (upC_cls hF)) hz0 (by kernel_rfl) rfl rfl rfl rfl ?_ | refine W_loadC (d := 49) 0 (sq_stepper (upC_cls hF)) (by kernel_rfl) rfl rfl rfl rfl rfl ?_ | refine W_lenR (d := 49) (sq_stepper (upC_cls hF)) (xs := xs) (fun w' h => IsS.up (Cls.ext h) hv0) (by kernel_rfl) rfl rfl rfl ?_ | refine W_indexR (d := 49) (sq_stepper (upC_cls hF)) (xs := xs) (fun w' h => IsS.up (Cls.ext h) hv0) (by kernel_rfl) rfl rfl rfl rfl (by omega) ?_ | refine W_indexO (d := 49) (s := 1) (sq_stepper (upC_cls hF)) (by kernel_rfl) rfl rfl rfl rfl (by omega) ?_)
  try any_goals (first | refine W_move (d := 22) (sq_stepper (upC_cls hF)) rfl rfl rfl ?_ | refine W_loadARC (d := 22) 2 (sq_stepper (upC_cls hF)) hz0 (by kernel_rfl) rfl rfl rfl rfl ?_ | refine W_loadARC (d := 22) 3 (sq_stepper (upC_cls hF)) hz0 (by kernel_rfl) rfl rfl rfl rfl ?_ | refine W_loadC (d := 22) 0 (sq_stepper (upC_cls hF)) (by kernel_rfl) rfl rfl rfl rfl rfl ?_ | refine W_lenR (d := 22) (sq_stepper (upC_cls hF)) (xs := xs) (fun w' h => IsS.up (Cls.ext h) hv0) (by kernel_rfl) rfl rfl rfl ?_ | refine W_indexR (d := 22) (sq_stepper (upC_cls hF)) (xs := xs) (fun w' h => IsS.up (Cls.ext h) hv0) (by kernel_rfl) rfl rfl rfl rfl (by omega) ?_ | refine W_indexO (d := 22) (s := 1) (sq_stepper (upC_cls hF)) (by kernel_rfl) rfl rfl rfl rfl (by omega) ?_)
  try any_goals (refine Sq_nil ?_)
  try any_goals (refine G_again (i + 1, _, _, _) ⟨by simp only; omega, by simp only; omega, ?_, ?_, ?_, ?_, ?_⟩ (by simp only; omega) (by repeat (first | exact trivial | refine ⟨⟨_, rfl, fun _ _ _ h => h⟩, ?_⟩)) (fun w' h => h.drop))
  repeat (any_goals (first | refine G_exit_then ?_ | refine G_exit_here ?_ | refine G_exit_far rfl ?_ | refine G_normal_block ?_))
  try any_goals (refine G_then ?_)
  try any_goals (refine H_seq ?_)
  try any_goals (refine H_reg ?_)
  try any_goals (first | refine W_move (d := 50) (sq_stepper (upC_cls hF)) rfl rfl rfl ?_ | refine W_loadARC (d := 50) 2 (sq_stepper (upC_cls hF)) hz0 (by kernel_rfl) rfl rfl rfl rfl ?_ | refine W_loadARC (d := 50) 3 (sq_stepper (upC_cls hF)) hz0 (by kernel_rfl) rfl rfl rfl rfl ?_ | refine W_loadC (d := 50) 0 (sq_stepper (upC_cls hF)) (by kernel_rfl) rfl rfl rfl rfl rfl ?_ | refine W_lenR (d := 50) (sq_stepper (upC_cls hF)) (xs := xs) (fun w' h => IsS.up (Cls.ext h) hv0) (by kernel_rfl) rfl rfl rfl ?_ | refine W_indexR (d := 50) (sq_stepper (upC_cls hF)) (xs := xs) (fun w' h => IsS.up (Cls.ext h) hv0) (by kernel_rfl) rfl rfl rfl rfl (by omega) ?_ | refine W_indexO (d := 50) (s := 1) (sq_stepper (upC_cls hF)) (by kernel_rfl) rfl rfl rfl rfl (by omega) ?_)
  try any_goals (first | refine W_move (d := 51) (sq_stepper (upC_cls hF)) rfl rfl rfl ?_ | refine W_loadARC (d := 51) 2 (sq_stepper (upC_cls hF)) hz0 (by kernel_rfl) rfl rfl rfl rfl ?_ | refine W_loadARC (d := 51) 3 (sq_stepper (upC_cls hF)) hz0 (by kernel_rfl) rfl rfl rfl rfl ?_ | refine W_loadC (d := 51) 0 (sq_stepper (upC_cls hF)) (by kernel_rfl) rfl rfl rfl rfl rfl ?_ | refine W_lenR (d := 51) (sq_stepper (upC_cls hF)) (xs := xs) (fun w' h => IsS.up (Cls.ext h) hv0) (by kernel_rfl) rfl rfl rfl ?_ | refine W_indexR (d := 51) (sq_stepper (upC_cls hF)) (xs := xs) (fun w' h => IsS.up (Cls.ext h) hv0) (by kernel_rfl) rfl rfl rfl rfl (by omega) ?_ | refine W_indexO (d := 51) (s := 1) (sq_stepper (upC_cls hF)) (by kernel_rfl) rfl rfl rfl rfl (by omega) ?_)
  try any_goals (first | refine W_assign (d := 8) (sq_stepper (upC_cls hF)) rfl rfl rfl ?_ | refine W_loadARC (d := 8) 2 (sq_stepper (upC_cls hF)) hz0 (by kernel_rfl) rfl rfl rfl rfl ?_ | refine W_loadARC (d := 8) 3 (sq_stepper (upC_cls hF)) hz0 (by kernel_rfl) rfl rfl rfl rfl ?_ | refine W_loadC (d := 8) 0 (sq_stepper (upC_cls hF)) (by kernel_rfl) rfl rfl rfl rfl rfl ?_ | refine W_lenR (d := 8) (sq_stepper (upC_cls hF)) (xs := xs) (fun w' h => IsS.up (Cls.ext h) hv0) (by kernel_rfl) rfl rfl rfl ?_ | refine W_indexR (d := 8) (sq_stepper (upC_cls hF)) (xs := xs) (fun w' h => IsS.up (Cls.ext h) hv0) (by kernel_rfl) rfl rfl rfl rfl (by omega) ?_ | refine W_indexO (d := 8) (s := 1) (sq_stepper (upC_cls hF)) (by kernel_rfl) rfl rfl rfl rfl (by omega) ?_)
  try any_goals (first | refine W_assign (d := 9) (sq_stepper (upC_cls hF)) rfl rfl rfl ?_ | refine W_loadARC (d := 9) 2 (sq_stepper (upC_cls hF)) hz0 (by kernel_rfl) rfl rfl rfl rfl ?_ | refine W_loadARC (d := 9) 3 (sq_stepper (upC_cls hF)) hz0 (by kernel_rfl) rfl rfl rfl rfl ?_ | refine W_loadC (d := 9) 0 (sq_stepper (upC_cls hF)) (by kernel_rfl) rfl rfl rfl rfl rfl ?_ | refine W_lenR (d := 9) (sq_stepper (upC_cls hF)) (xs := xs) (fun w' h => IsS.up (Cls.ext h) hv0) (by kernel_rfl) rfl rfl rfl ?_ | refine W_indexR (d := 9) (sq_stepper (upC_cls hF)) (xs := xs) (fun w' h => IsS.up (Cls.ext h) hv0) (by kernel_rfl) rfl rfl rfl rfl (by omega) ?_ | refine W_indexO (d := 9) (s := 1) (sq_stepper (upC_cls hF)) (by kernel_rfl) rfl rfl rfl rfl (by omega) ?_)
  try any_goals (refine Sq_nil ?_)
  try any_goals (refine G_then ?_)
  try any_goals (refine H_ret ?_)
  repeat (any_goals (first | refine G_ret_then ?_ | refine G_ret_block ?_))
  all_goals (try dsimp only)
  all_goals (first | (have hL := hcb) | (have hL := bef_zero (xs := xs) (b := b) (l := l) (p := p) hl0 hq) | skip)
  all_goals first
    | exact fun _ => aft_next hL
    | exact (put_one (f := aft xs b l p) (by simp) (by omega) (aft_now hL) hca).1.trans hla
    | exact (put_one (f := bef xs b l p) (by simp) (by omega) hL hcb').1.trans hlb'
    | exact (put_one (f := aft xs b l p) (by simp) (by omega) (aft_now hL) hca).2
    | exact (put_one (f := bef xs b l p) (by simp) (by omega) hL hcb').2
    | (have e : i = xs.length := by omega
       subst e
       exact R2 rfl (fun _ h => h.ext) rfl rfl (fun v w' hc hv => by
         rw [show v = _ from hv]
         exact cls_OS (A := some g1) (m := 0) hc hs rfl (lst_LS hca) lst_length.symm (Nat.le_refl _) (by simp only [maxLen]; omega) (by rw [hla]; exact (Nat.mul_one _).symm) (fun h => by cases h)) (fun v w' hc hv => by
         rw [show v = _ from hv]
         exact cls_OS (A := some g2) (m := 1) hc hs rfl (lst_LS hcb') lst_length.symm (Nat.le_refl _) (by simp only [maxLen]; omega) (by rw [hlb']; exact (Nat.mul_one _).symm) (fun h => by cases h)))
    | trace_state
theorem ct_levels {e1 e2 : Option TypeId} (xs : List Leg) (b : Bat) (l : Int) (p : List Int) (hv : Val xs b l p) : CT Try.prog 65 [.inr (uS e1 pLeg xs), .inr (uA pBat b), .inl (.int .i64 l), .inr (uS e2 pI p)]
    (.inr (uT [.inr (uS (some 3) pI (lst (aft xs b l p) xs.length)), .inr (uS (some 3) pI (lst (bef xs b l p) xs.length))])) :=
  (cg_levels xs b l p hv).ct fun s v w ⟨vs, h1, h2⟩ => by
    match vs, h2 with
    | [a, c], ⟨⟨S, _, h3⟩, ⟨T, _, h4⟩, _⟩ => exact ⟨_, h1, OS.isS h3, OS.isS h4, trivial⟩
/-! The law's functions. -/
def levR (xs : List Leg) (b : Bat) (l : Int) (p : List Int) : List Int := if lvOk xs b l p = true then lst (aft xs b l p) xs.length else []
theorem ct_isCharged' {e : Option TypeId} (xs : List Leg) (b : Bat) (l : Int) {c1 c2 : Bool} (h1 : legs xs = c1) (h2 : (batB b && inB l 0 b.C) = c2) : CT Try.prog 57 [.inr (uS e pLeg xs), .inr (uA pBat b), .inl (.int .i64 l)] (.inl (.bool (c1 && c2))) := by
  subst h1 h2
  exact ct_isCharged xs b l
theorem cg_iLevels {e1 e2 : Option TypeId} (xs : List Leg) (b : Bat) (l : Int) (p : List Int) : CTG Try.prog 35 [.inr (uS e1 pLeg xs), .inr (uA pBat b), .inl (.int .i64 l), .inr (uS e2 pI p)] (fun s => .inr (uT [.inr (uO s oIntS (levR xs b l p)), .inl (.bool (lvOk xs b l p))])) := by
  refine CTG_of Try.func35 rfl rfl rfl (fun w s hs => ?_)
  have hC := upC_ext w
  cases h1 : legs xs <;> cases h2 : (batB b && inB l 0 b.C) <;> cases h3 : plOk xs p
  all_goals (have hT : levR xs b l p = (if lvOk xs b l p = true then lst (aft xs b l p) xs.length else []) := rfl)
  all_goals (try have hvv := lvOk_val h1 h2 h3)
  try any_goals (refine H_seq ?_)
  try any_goals (refine H_reg ?_)
  try any_goals (first | refine W_boxA (d := 5) (sq_stepper hC) rfl rfl rfl ?_)
  try any_goals (first | refine W_assign (d := 8) (sq_stepper hC) rfl rfl rfl ?_)
  try any_goals (first | refine W_assign (d := 9) (sq_stepper hC) rfl rfl rfl ?_)
  try any_goals (refine Sq_nil ?_)
  try any_goals (refine G_then ?_)
  try any_goals (refine H_seq ?_)
  try any_goals (refine H_seq ?_)
  try any_goals (refine H_reg ?_)
  try any_goals (first | refine W_move (d := 12) (sq_stepper hC) rfl rfl rfl ?_)
  try any_goals (first | refine W_loadI (d := 13) (sq_stepper hC) (by kernel_rfl) rfl rfl rfl ?_ | refine W_loadB (d := 13) (sq_stepper hC) (by kernel_rfl) rfl rfl rfl ?_ | refine W_loadStr (d := 13) (sq_stepper hC) (by kernel_rfl) rfl rfl rfl ?_ | refine W_loadS (d := 13) (sq_stepper hC) (by kernel_rfl) rfl rfl rfl ?_ | refine W_loadA (d := 13) (sq_stepper hC) (by kernel_rfl) rfl rfl rfl ?_)
  try any_goals (first | refine W_move (d := 14) (sq_stepper hC) rfl rfl rfl ?_)
  try any_goals (first | refine W_ct (d := 15) (sq_stepper hC) (ct_isCharged' xs b l h1 h2) rfl rfl rfl (by kernel_rfl) ?_)
  try any_goals (first | refine W_not (d := 16) (sq_stepper hC) rfl rfl rfl ?_)
  try any_goals (first | refine W_move (d := 17) (sq_stepper hC) rfl rfl rfl ?_)
  try any_goals (first | refine W_skip (d := 18) (sq_stepper hC) rfl rfl ?_ | refine W_move (d := 18) (sq_stepper hC) rfl rfl rfl ?_ | (refine W_splitG (sq_stepper hC) _ rfl _ rfl (fun hq => ?_) (fun hq => ?_) <;> ((try simp only [eq_self, not_true_eq_false, not_false_eq_true, bne_self_eq_false, Bool.false_eq_true, Bool.true_eq_false, Bool.and_eq_true, Bool.or_eq_true, Bool.or_eq_false_iff, Bool.not_not, inB_t, inB_f, decide_eq_true_eq, decide_eq_false_iff_not, Bool.not_eq_true', Bool.not_eq_false', Bool.not_eq_true, Bool.not_eq_false, Int.not_lt, Int.not_le, Nat.not_lt, Nat.not_le, reduceCtorEq] at hq); try (have hq' := hq; clear hq)) <;> first | refine W_skip (d := 18) (sq_stepper hC) rfl rfl ?_ | refine W_move (d := 18) (sq_stepper hC) rfl rfl rfl ?_))
  try any_goals (first | refine W_skip (d := 19) (sq_stepper hC) rfl rfl ?_ | refine W_move (d := 19) (sq_stepper hC) rfl rfl rfl ?_ | (refine W_splitG (sq_stepper hC) _ rfl _ rfl (fun hq => ?_) (fun hq => ?_) <;> ((try simp only [eq_self, not_true_eq_false, not_false_eq_true, bne_self_eq_false, Bool.false_eq_true, Bool.true_eq_false, Bool.and_eq_true, Bool.or_eq_true, Bool.or_eq_false_iff, Bool.not_not, inB_t, inB_f, decide_eq_true_eq, decide_eq_false_iff_not, Bool.not_eq_true', Bool.not_eq_false', Bool.not_eq_true, Bool.not_eq_false, Int.not_lt, Int.not_le, Nat.not_lt, Nat.not_le, reduceCtorEq] at hq); try (have hq' := hq; clear hq)) <;> first | refine W_skip (d := 19) (sq_stepper hC) rfl rfl ?_ | refine W_move (d := 19) (sq_stepper hC) rfl rfl rfl ?_))
  try any_goals (first | refine W_skip (d := 20) (sq_stepper hC) rfl rfl ?_ | refine W_ct (d := 20) (sq_stepper hC) ((h3 ▸ ct_iPlan xs p h1)) rfl rfl rfl (by kernel_rfl) ?_ | (refine W_splitG (sq_stepper hC) _ rfl _ rfl (fun hq => ?_) (fun hq => ?_) <;> ((try simp only [eq_self, not_true_eq_false, not_false_eq_true, bne_self_eq_false, Bool.false_eq_true, Bool.true_eq_false, Bool.and_eq_true, Bool.or_eq_true, Bool.or_eq_false_iff, Bool.not_not, inB_t, inB_f, decide_eq_true_eq, decide_eq_false_iff_not, Bool.not_eq_true', Bool.not_eq_false', Bool.not_eq_true, Bool.not_eq_false, Int.not_lt, Int.not_le, Nat.not_lt, Nat.not_le, reduceCtorEq] at hq); try (have hq' := hq; clear hq)) <;> first | refine W_skip (d := 20) (sq_stepper hC) rfl rfl ?_ | refine W_ct (d := 20) (sq_stepper hC) ((h3 ▸ ct_iPlan xs p h1)) rfl rfl rfl (by kernel_rfl) ?_))
  try any_goals (first | refine W_skip (d := 21) (sq_stepper hC) rfl rfl ?_ | refine W_not (d := 21) (sq_stepper hC) rfl rfl rfl ?_ | (refine W_splitG (sq_stepper hC) _ rfl _ rfl (fun hq => ?_) (fun hq => ?_) <;> ((try simp only [eq_self, not_true_eq_false, not_false_eq_true, bne_self_eq_false, Bool.false_eq_true, Bool.true_eq_false, Bool.and_eq_true, Bool.or_eq_true, Bool.or_eq_false_iff, Bool.not_not, inB_t, inB_f, decide_eq_true_eq, decide_eq_false_iff_not, Bool.not_eq_true', Bool.not_eq_false', Bool.not_eq_true, Bool.not_eq_false, Int.not_lt, Int.not_le, Nat.not_lt, Nat.not_le, reduceCtorEq] at hq); try (have hq' := hq; clear hq)) <;> first | refine W_skip (d := 21) (sq_stepper hC) rfl rfl ?_ | refine W_not (d := 21) (sq_stepper hC) rfl rfl rfl ?_))
  try any_goals (first | refine W_pickT (d := 22) (sq_stepper hC) rfl rfl rfl rfl ?_ | refine W_pickF (d := 22) (sq_stepper hC) rfl rfl rfl rfl ?_)
  try any_goals (refine Sq_nil ?_)
  try any_goals (refine G_then ?_)
  try any_goals (first | refine H_condT rfl ?_ | refine H_condF rfl ?_ | (refine H_cond _ rfl (fun hq => ?_) (fun hq => ?_) <;> (try simp only [eq_self, not_true_eq_false, not_false_eq_true, bne_self_eq_false, Bool.false_eq_true, Bool.true_eq_false, Bool.and_eq_true, Bool.or_eq_true, Bool.or_eq_false_iff, Bool.not_not, inB_t, inB_f, decide_eq_true_eq, decide_eq_false_iff_not, Bool.not_eq_true', Bool.not_eq_false', Bool.not_eq_true, Bool.not_eq_false, Int.not_lt, Int.not_le, Nat.not_lt, Nat.not_le, reduceCtorEq] at hq)))
  try any_goals (refine H_seq ?_)
  try any_goals (refine H_reg ?_)
  try any_goals (first | refine W_assign (d := 8) (sq_stepper hC) rfl rfl rfl ?_)
  try any_goals (first | refine W_assign (d := 9) (sq_stepper hC) rfl rfl rfl ?_)
  try any_goals (refine Sq_nil ?_)
  try any_goals (refine G_then ?_)
  try any_goals (refine H_ret ?_)
  repeat (any_goals (first | refine G_ret_then ?_ | refine G_ret_block ?_))
  try any_goals (refine H_skip ?_)
  try any_goals (refine G_then ?_)
  try any_goals (refine H_seq ?_)
  try any_goals (refine H_reg ?_)
  try any_goals (first | refine W_move (d := 24) (sq_stepper hC) rfl rfl rfl ?_)
  try any_goals (first | refine W_loadI (d := 25) (sq_stepper hC) (by kernel_rfl) rfl rfl rfl ?_ | refine W_loadB (d := 25) (sq_stepper hC) (by kernel_rfl) rfl rfl rfl ?_ | refine W_loadStr (d := 25) (sq_stepper hC) (by kernel_rfl) rfl rfl rfl ?_ | refine W_loadS (d := 25) (sq_stepper hC) (by kernel_rfl) rfl rfl rfl ?_ | refine W_loadA (d := 25) (sq_stepper hC) (by kernel_rfl) rfl rfl rfl ?_)
  try any_goals (first | refine W_move (d := 26) (sq_stepper hC) rfl rfl rfl ?_)
  try any_goals (first | refine W_move (d := 27) (sq_stepper hC) rfl rfl rfl ?_)
  try any_goals (first | refine W_ctG (d := 28) (sq_stepper hC) (cg_levels _ _ _ _ hvv.1) (s := s) (fun w' h => Nat.le_trans hs h.size) rfl rfl rfl (by kernel_rfl) ?_)
  try any_goals (first | refine W_move (d := 23) (sq_stepper hC) rfl rfl rfl ?_)
  try any_goals (first | refine W_extract (d := 29) (sq_stepper hC) rfl rfl rfl rfl ?_)
  try any_goals (first | refine W_extract (d := 30) (sq_stepper hC) rfl rfl rfl rfl ?_)
  try any_goals (first | refine W_assign (d := 10) (sq_stepper hC) rfl rfl rfl ?_)
  try any_goals (first | refine W_assign (d := 11) (sq_stepper hC) rfl rfl rfl ?_)
  try any_goals (refine Sq_nil ?_)
  try any_goals (refine G_then ?_)
  try any_goals (refine H_seq ?_)
  try any_goals (refine H_reg ?_)
  try any_goals (first | refine W_move (d := 31) (sq_stepper hC) rfl rfl rfl ?_)
  try any_goals (first | refine W_assign (d := 8) (sq_stepper hC) rfl rfl rfl ?_)
  try any_goals (first | refine W_assign (d := 9) (sq_stepper hC) rfl rfl rfl ?_)
  try any_goals (refine Sq_nil ?_)
  try any_goals (refine G_then ?_)
  try any_goals (refine H_ret ?_)
  repeat (any_goals (first | refine G_ret_then ?_ | refine G_ret_block ?_))
  all_goals first
    | (have ho := hvv.2
       have hl : levR xs b l p = lst (aft xs b l p) xs.length := by rw [hT, if_pos ho]
       exact R2 rfl (fun _ h => h) rfl rfl (fun v w' _ hv => by rw [hl]; exact hv) (fun v w' _ hv => by rw [ho]; exact hv))
    | (have ho : lvOk xs b l p = false := by simp [lvOk, h1, h2, h3]
       have hl : levR xs b l p = [] := by rw [hT, ho]; rfl
       exact R2 rfl (fun _ h => h) rfl rfl (fun v w' _ hv => by rw [hl, show v = _ from hv]; exact nil_OS) (fun v w' _ hv => by rw [ho]; exact hv))
theorem ct_iLevels {e1 e2 : Option TypeId} (xs : List Leg) (b : Bat) (l : Int) (p : List Int) {ok : Bool} (ho : lvOk xs b l p = ok) : CT Try.prog 35 [.inr (uS e1 pLeg xs), .inr (uA pBat b), .inl (.int .i64 l), .inr (uS e2 pI p)] (.inr (uT [.inr (uS (some 3) pI (levR xs b l p)), .inl (.bool ok)])) :=
  (cg_iLevels xs b l p).ct fun s v w ⟨vs, h1, h2⟩ => by
    match vs, h2 with
    | [a, c], ⟨⟨S, _, h3⟩, h4, _⟩ => exact ⟨_, h1, OS.isS h3, by rw [← ho]; exact h4, trivial⟩
theorem ix_lst {f : Nat → Int} {n j : Nat} (hj : j < n) : ix (lst f n) j = f j := by
  have := ix_get (xs := lst f n) (i := j) (by omega) (by rw [lst_length]; omega)
  rw [lst, List.getElem?_map, Int.toNat_natCast, List.getElem?_range hj] at this
  simp only [Option.map_some, Option.some.injEq] at this
  exact this.symm
theorem ct_iFirst {e1 e2 : Option TypeId} (xs : List Leg) (b : Bat) (l : Int) (p : List Int) : CT Try.prog 33 [.inr (uS e1 pLeg xs), .inr (uA pBat b), .inl (.int .i64 l), .inr (uS e2 pI p)] (.inr (uT [.inl (.int .i64 (emptR xs b l p)), .inl (.bool (lvOk xs b l p))])) := by
  refine CT_of Try.func33 rfl rfl rfl (fun w => ?_)
  have hC := upC_ext w
  cases ho : lvOk xs b l p
  try any_goals (refine H_seq ?_)
  try any_goals (refine H_reg ?_)
  try any_goals (first | refine W_boxA (d := 5) (sq_stepper hC) rfl rfl rfl ?_)
  try any_goals (first | refine W_assign (d := 8) (sq_stepper hC) rfl rfl rfl ?_)
  try any_goals (first | refine W_assign (d := 9) (sq_stepper hC) rfl rfl rfl ?_)
  try any_goals (refine Sq_nil ?_)
  try any_goals (refine G_then ?_)
  try any_goals (refine H_seq ?_)
  try any_goals (refine H_reg ?_)
  try any_goals (first | refine W_move (d := 13) (sq_stepper hC) rfl rfl rfl ?_)
  try any_goals (first | refine W_loadI (d := 14) (sq_stepper hC) (by kernel_rfl) rfl rfl rfl ?_ | refine W_loadB (d := 14) (sq_stepper hC) (by kernel_rfl) rfl rfl rfl ?_ | refine W_loadStr (d := 14) (sq_stepper hC) (by kernel_rfl) rfl rfl rfl ?_ | refine W_loadS (d := 14) (sq_stepper hC) (by kernel_rfl) rfl rfl rfl ?_ | refine W_loadA (d := 14) (sq_stepper hC) (by kernel_rfl) rfl rfl rfl ?_)
  try any_goals (first | refine W_move (d := 15) (sq_stepper hC) rfl rfl rfl ?_)
  try any_goals (first | refine W_move (d := 16) (sq_stepper hC) rfl rfl rfl ?_)
  try any_goals (first | refine W_ct (d := 17) (sq_stepper hC) (ct_iLevels _ _ _ _ ho) rfl rfl rfl (by kernel_rfl) ?_)
  try any_goals (first | refine W_move (d := 12) (sq_stepper hC) rfl rfl rfl ?_)
  try any_goals (first | refine W_extract (d := 18) (sq_stepper hC) rfl rfl rfl rfl ?_)
  try any_goals (first | refine W_extract (d := 19) (sq_stepper hC) rfl rfl rfl rfl ?_)
  try any_goals (first | refine W_assign (d := 10) (sq_stepper hC) rfl rfl rfl ?_)
  try any_goals (first | refine W_assign (d := 11) (sq_stepper hC) rfl rfl rfl ?_)
  try any_goals (refine Sq_nil ?_)
  try any_goals (refine G_then ?_)
  try any_goals (refine H_seq ?_)
  try any_goals (refine H_seq ?_)
  try any_goals (refine H_reg ?_)
  try any_goals (first | refine W_move (d := 20) (sq_stepper hC) rfl rfl rfl ?_)
  try any_goals (first | refine W_not (d := 21) (sq_stepper hC) rfl rfl rfl ?_)
  try any_goals (refine Sq_nil ?_)
  try any_goals (refine G_then ?_)
  try any_goals (first | refine H_condT rfl ?_ | refine H_condF rfl ?_ | (refine H_cond _ rfl (fun hq => ?_) (fun hq => ?_) <;> (try simp only [eq_self, not_true_eq_false, not_false_eq_true, bne_self_eq_false, Bool.false_eq_true, Bool.true_eq_false, Bool.and_eq_true, Bool.or_eq_true, Bool.or_eq_false_iff, Bool.not_not, inB_t, inB_f, decide_eq_true_eq, decide_eq_false_iff_not, Bool.not_eq_true', Bool.not_eq_false', Bool.not_eq_true, Bool.not_eq_false, Int.not_lt, Int.not_le, Nat.not_lt, Nat.not_le, reduceCtorEq] at hq)))
  try any_goals (refine H_seq ?_)
  try any_goals (refine H_reg ?_)
  try any_goals (first | refine W_assign (d := 8) (sq_stepper hC) rfl rfl rfl ?_)
  try any_goals (first | refine W_assign (d := 9) (sq_stepper hC) rfl rfl rfl ?_)
  try any_goals (refine Sq_nil ?_)
  try any_goals (refine G_then ?_)
  try any_goals (refine H_ret ?_)
  repeat (any_goals (first | refine G_ret_then ?_ | refine G_ret_block ?_))
  try any_goals (refine H_skip ?_)
  try any_goals (refine G_then ?_)
  try any_goals (refine H_seq ?_)
  try any_goals (refine H_reg ?_)
  try any_goals (first | refine W_loadI (d := 22) (sq_stepper hC) (by kernel_rfl) rfl rfl rfl ?_ | refine W_loadB (d := 22) (sq_stepper hC) (by kernel_rfl) rfl rfl rfl ?_ | refine W_loadStr (d := 22) (sq_stepper hC) (by kernel_rfl) rfl rfl rfl ?_ | refine W_loadS (d := 22) (sq_stepper hC) (by kernel_rfl) rfl rfl rfl ?_ | refine W_loadA (d := 22) (sq_stepper hC) (by kernel_rfl) rfl rfl rfl ?_)
  try any_goals (first | refine W_move (d := 23) (sq_stepper hC) rfl rfl rfl ?_)
  try any_goals (first | refine W_ct (d := 24) (sq_stepper hC) (ct_firstEmpty _ _) rfl rfl rfl (by kernel_rfl) ?_)
  try any_goals (first | refine W_assign (d := 8) (sq_stepper hC) rfl rfl rfl ?_)
  try any_goals (first | refine W_assign (d := 9) (sq_stepper hC) rfl rfl rfl ?_)
  try any_goals (refine Sq_nil ?_)
  try any_goals (refine G_then ?_)
  try any_goals (refine H_ret ?_)
  repeat (any_goals (first | refine G_ret_then ?_ | refine G_ret_block ?_))
  all_goals refine R2v rfl (fun _ h => h) rfl rfl ?_ rfl
  · rw [emptR, ho]; rfl
  · rw [emptR, if_pos ho, levR, if_pos ho, empt, lst_length]
    exact congrArg (Value.int .i64) (firstI_congr fun j hj => by rw [ix_lst hj])
theorem ct_lawFirst (xs : List Leg) (b : Bat) (l : Int) (p : List Int) : CT Try.prog 7 [.inr (uS none pLeg xs), .inr (uA pBat b), .inl (.int .i64 l), .inr (uS none pI p)] (.inl (.bool true)) := by
  refine CT_of Try.func7 rfl rfl rfl (fun w => ?_)
  have hC := upC_ext w
  try any_goals (refine H_seq ?_)
  try any_goals (refine H_reg ?_)
  try any_goals (first | refine W_boxA (d := 5) (sq_stepper hC) rfl rfl rfl ?_)
  try any_goals (first | refine W_assign (d := 8) (sq_stepper hC) rfl rfl rfl ?_)
  try any_goals (refine Sq_nil ?_)
  try any_goals (refine G_then ?_)
  try any_goals (refine H_seq ?_)
  try any_goals (refine H_seq ?_)
  try any_goals (refine H_reg ?_)
  try any_goals (first | refine W_move (d := 16) (sq_stepper hC) rfl rfl rfl ?_)
  try any_goals (first | refine W_len (d := 17) (sq_stepper hC) (by kernel_rfl) rfl rfl rfl ?_ | refine W_lenStr (d := 17) (sq_stepper hC) (by kernel_rfl) rfl rfl rfl ?_)
  try any_goals (first | refine W_cmp (d := 18) (sq_stepper hC) rfl rfl rfl rfl rfl ?_ | refine W_strcmp (d := 18) (sq_stepper hC) rfl rfl rfl rfl rfl ?_)
  try any_goals (refine Sq_nil ?_)
  try any_goals (refine G_then ?_)
  try any_goals (first | refine H_condT rfl ?_ | refine H_condF rfl ?_ | (refine H_cond _ rfl (fun hq => ?_) (fun hq => ?_) <;> (try simp only [eq_self, not_true_eq_false, not_false_eq_true, bne_self_eq_false, Bool.false_eq_true, Bool.true_eq_false, Bool.and_eq_true, Bool.or_eq_true, Bool.or_eq_false_iff, Bool.not_not, inB_t, inB_f, decide_eq_true_eq, decide_eq_false_iff_not, Bool.not_eq_true', Bool.not_eq_false', Bool.not_eq_true, Bool.not_eq_false, Int.not_lt, Int.not_le, Nat.not_lt, Nat.not_le, reduceCtorEq, decide_true, Bool.not_true] at hq)))
  try any_goals (refine H_seq ?_)
  try any_goals (refine H_reg ?_)
  try any_goals (first | refine W_assign (d := 8) (sq_stepper hC) rfl rfl rfl ?_)
  try any_goals (refine Sq_nil ?_)
  try any_goals (refine G_then ?_)
  try any_goals (refine H_ret ?_)
  repeat (any_goals (first | refine G_ret_then ?_ | refine G_ret_block ?_))
  try any_goals (refine H_skip ?_)
  try any_goals (refine G_then ?_)
  try any_goals (refine H_seq ?_)
  try any_goals (refine H_reg ?_)
  try any_goals (first | refine W_assign (d := 9) (sq_stepper hC) rfl rfl rfl ?_)
  try any_goals (refine Sq_nil ?_)
  try any_goals (refine G_then ?_)
  try any_goals (refine H_seq ?_)
  try any_goals (refine H_reg ?_)
  try any_goals (first | refine W_move (d := 19) (sq_stepper hC) rfl rfl rfl ?_)
  try any_goals (first | refine W_move (d := 20) (sq_stepper hC) rfl rfl rfl ?_)
  try any_goals (first | refine W_ct (d := 21) (sq_stepper hC) (ct_szLegS _ _ (by omega)) rfl rfl rfl (by kernel_rfl) ?_)
  try any_goals (first | refine W_assign (d := 9) (sq_stepper hC) rfl rfl rfl ?_)
  try any_goals (refine Sq_nil ?_)
  try any_goals (refine G_then ?_)
  try any_goals (refine H_seq ?_)
  try any_goals (refine H_seq ?_)
  try any_goals (refine H_reg ?_)
  try any_goals (first | refine W_move (d := 22) (sq_stepper hC) rfl rfl rfl ?_)
  try any_goals (first | refine W_cmp (d := 23) (sq_stepper hC) rfl rfl rfl rfl rfl ?_ | refine W_strcmp (d := 23) (sq_stepper hC) rfl rfl rfl rfl rfl ?_)
  try any_goals (refine Sq_nil ?_)
  try any_goals (refine G_then ?_)
  try any_goals (first | refine H_condT rfl ?_ | refine H_condF rfl ?_ | (refine H_cond _ rfl (fun hq => ?_) (fun hq => ?_) <;> (try simp only [eq_self, not_true_eq_false, not_false_eq_true, bne_self_eq_false, Bool.false_eq_true, Bool.true_eq_false, Bool.and_eq_true, Bool.or_eq_true, Bool.or_eq_false_iff, Bool.not_not, inB_t, inB_f, decide_eq_true_eq, decide_eq_false_iff_not, Bool.not_eq_true', Bool.not_eq_false', Bool.not_eq_true, Bool.not_eq_false, Int.not_lt, Int.not_le, Nat.not_lt, Nat.not_le, reduceCtorEq, decide_true, Bool.not_true] at hq)))
  try any_goals (refine H_seq ?_)
  try any_goals (refine H_reg ?_)
  try any_goals (first | refine W_assign (d := 8) (sq_stepper hC) rfl rfl rfl ?_)
  try any_goals (refine Sq_nil ?_)
  try any_goals (refine G_then ?_)
  try any_goals (refine H_ret ?_)
  repeat (any_goals (first | refine G_ret_then ?_ | refine G_ret_block ?_))
  try any_goals (refine H_skip ?_)
  try any_goals (refine G_then ?_)
  try any_goals (refine H_seq ?_)
  try any_goals (refine H_draw' (by kernel_rfl) hC ?_)
  try any_goals (first | refine W_move (d := 25) wk_stepper rfl rfl rfl ?_)
  try any_goals (first | refine W_ct (d := 26) wk_stepper (ct_toLegS _ (by have := szN_pos (n := xs.length) (l := 1048576) (Int.not_lt.2 (by assumption)); omega)) rfl rfl rfl (by kernel_rfl) ?_)
  try any_goals (first | refine W_loadI (d := 27) wk_stepper (by kernel_rfl) rfl rfl rfl ?_ | refine W_loadB (d := 27) wk_stepper (by kernel_rfl) rfl rfl rfl ?_ | refine W_loadStr (d := 27) wk_stepper (by kernel_rfl) rfl rfl rfl ?_ | refine W_loadS (d := 27) wk_stepper (by kernel_rfl) rfl rfl rfl ?_ | refine W_loadA (d := 27) wk_stepper (by kernel_rfl) rfl rfl rfl ?_)
  try any_goals (first | refine W_ct (d := 28) wk_stepper (ct_toBattery _) rfl rfl rfl (by kernel_rfl) ?_)
  try any_goals (first | refine W_move (d := 29) wk_stepper rfl rfl rfl ?_)
  try any_goals (first | refine W_move (d := 30) wk_stepper rfl rfl rfl ?_)
  try any_goals (first | refine W_ct (d := 31) wk_stepper (ct_toIntS _ (by omega)) rfl rfl rfl (by kernel_rfl) ?_)
  try any_goals (first | refine W_ct (d := 32) wk_stepper (ct_sFirst _ _ _ _) rfl rfl rfl (by kernel_rfl) ?_)
  try any_goals (first | refine W_move (d := 24) wk_stepper rfl rfl rfl ?_)
  try any_goals (first | refine W_extract (d := 33) wk_stepper rfl rfl rfl rfl ?_)
  try any_goals (first | refine W_extract (d := 34) wk_stepper rfl rfl rfl rfl ?_)
  try any_goals (first | refine W_assign (d := 10) wk_stepper rfl rfl rfl ?_)
  try any_goals (refine Wk_assign (by kernel_rfl) (by kernel_rfl) ?_)
  try any_goals (first | refine W_assign (d := 11) (sq_stepper hC) rfl rfl rfl ?_)
  try any_goals (refine Sq_nil ?_)
  try any_goals (refine G_then ?_)
  try any_goals (refine H_seq ?_)
  try any_goals (refine H_reg ?_)
  try any_goals (first | refine W_move (d := 35) (sq_stepper hC) rfl rfl rfl ?_)
  try any_goals (first | refine W_ct (d := 36) (sq_stepper hC) (ct_toLegS _ (by have := szN_pos (n := xs.length) (l := 1048576) (Int.not_lt.2 (by assumption)); omega)) rfl rfl rfl (by kernel_rfl) ?_)
  try any_goals (first | refine W_assign (d := 12) (sq_stepper hC) rfl rfl rfl ?_)
  try any_goals (refine Sq_nil ?_)
  try any_goals (refine G_then ?_)
  try any_goals (refine H_seq ?_)
  try any_goals (refine H_reg ?_)
  try any_goals (first | refine W_move (d := 37) (sq_stepper hC) rfl rfl rfl ?_)
  try any_goals (first | refine W_ct (d := 38) (sq_stepper hC) (ct_toIntS _ (by omega)) rfl rfl rfl (by kernel_rfl) ?_)
  try any_goals (first | refine W_assign (d := 13) (sq_stepper hC) rfl rfl rfl ?_)
  try any_goals (refine Sq_nil ?_)
  try any_goals (refine G_then ?_)
  try any_goals (refine H_seq ?_)
  try any_goals (refine H_reg ?_)
  try any_goals (first | refine W_move (d := 40) (sq_stepper hC) rfl rfl rfl ?_)
  try any_goals (first | refine W_loadI (d := 41) (sq_stepper hC) (by kernel_rfl) rfl rfl rfl ?_ | refine W_loadB (d := 41) (sq_stepper hC) (by kernel_rfl) rfl rfl rfl ?_ | refine W_loadStr (d := 41) (sq_stepper hC) (by kernel_rfl) rfl rfl rfl ?_ | refine W_loadS (d := 41) (sq_stepper hC) (by kernel_rfl) rfl rfl rfl ?_ | refine W_loadA (d := 41) (sq_stepper hC) (by kernel_rfl) rfl rfl rfl ?_)
  try any_goals (first | refine W_ct (d := 42) (sq_stepper hC) (ct_toBattery _) rfl rfl rfl (by kernel_rfl) ?_)
  try any_goals (first | refine W_move (d := 43) (sq_stepper hC) rfl rfl rfl ?_)
  try any_goals (first | refine W_move (d := 44) (sq_stepper hC) rfl rfl rfl ?_)
  try any_goals (first | refine W_ct (d := 45) (sq_stepper hC) (ct_iFirst _ _ _ _) rfl rfl rfl (by kernel_rfl) ?_)
  try any_goals (first | refine W_move (d := 39) (sq_stepper hC) rfl rfl rfl ?_)
  try any_goals (first | refine W_extract (d := 46) (sq_stepper hC) rfl rfl rfl rfl ?_)
  try any_goals (first | refine W_extract (d := 47) (sq_stepper hC) rfl rfl rfl rfl ?_)
  try any_goals (first | refine W_assign (d := 14) (sq_stepper hC) rfl rfl rfl ?_)
  try any_goals (first | refine W_assign (d := 15) (sq_stepper hC) rfl rfl rfl ?_)
  try any_goals (refine Sq_nil ?_)
  try any_goals (refine G_then ?_)
  try any_goals (refine H_seq ?_)
  try any_goals (refine H_seq ?_)
  try any_goals (refine H_reg ?_)
  try any_goals (first | refine W_move (d := 48) (sq_stepper hC) rfl rfl rfl ?_)
  try any_goals (first | refine W_move (d := 49) (sq_stepper hC) rfl rfl rfl ?_)
  try any_goals (first | refine W_cmp (d := 50) (sq_stepper hC) rfl rfl rfl rfl rfl ?_ | refine W_neqStr (d := 50) (sq_stepper hC) rfl rfl rfl rfl ?_ | refine W_neqB (d := 50) (sq_stepper hC) rfl rfl Try.underlying4 rfl rfl ?_)
  try any_goals (first | refine W_move (d := 51) (sq_stepper hC) rfl rfl rfl ?_)
  try any_goals (first | refine W_skip (d := 52) (sq_stepper hC) rfl rfl ?_ | refine W_move (d := 52) (sq_stepper hC) rfl rfl rfl ?_ | (refine W_splitG (sq_stepper hC) _ rfl _ rfl (fun hq => ?_) (fun hq => ?_) <;> ((try simp only [eq_self, not_true_eq_false, not_false_eq_true, bne_self_eq_false, Bool.false_eq_true, Bool.true_eq_false, Bool.and_eq_true, Bool.or_eq_true, Bool.or_eq_false_iff, Bool.not_not, inB_t, inB_f, decide_eq_true_eq, decide_eq_false_iff_not, Bool.not_eq_true', Bool.not_eq_false', Bool.not_eq_true, Bool.not_eq_false, Int.not_lt, Int.not_le, Nat.not_lt, Nat.not_le, reduceCtorEq, decide_true, Bool.not_true] at hq); try (have hq' := hq; clear hq)) <;> first | refine W_skip (d := 52) (sq_stepper hC) rfl rfl ?_ | refine W_move (d := 52) (sq_stepper hC) rfl rfl rfl ?_))
  try any_goals (first | refine W_skip (d := 53) (sq_stepper hC) rfl rfl ?_ | refine W_move (d := 53) (sq_stepper hC) rfl rfl rfl ?_ | (refine W_splitG (sq_stepper hC) _ rfl _ rfl (fun hq => ?_) (fun hq => ?_) <;> ((try simp only [eq_self, not_true_eq_false, not_false_eq_true, bne_self_eq_false, Bool.false_eq_true, Bool.true_eq_false, Bool.and_eq_true, Bool.or_eq_true, Bool.or_eq_false_iff, Bool.not_not, inB_t, inB_f, decide_eq_true_eq, decide_eq_false_iff_not, Bool.not_eq_true', Bool.not_eq_false', Bool.not_eq_true, Bool.not_eq_false, Int.not_lt, Int.not_le, Nat.not_lt, Nat.not_le, reduceCtorEq, decide_true, Bool.not_true] at hq); try (have hq' := hq; clear hq)) <;> first | refine W_skip (d := 53) (sq_stepper hC) rfl rfl ?_ | refine W_move (d := 53) (sq_stepper hC) rfl rfl rfl ?_))
  try any_goals (first | refine W_skip (d := 54) (sq_stepper hC) rfl rfl ?_ | refine W_cmp (d := 54) (sq_stepper hC) rfl rfl rfl rfl rfl ?_ | refine W_neqStr (d := 54) (sq_stepper hC) rfl rfl rfl rfl ?_ | refine W_neqB (d := 54) (sq_stepper hC) rfl rfl Try.underlying4 rfl rfl ?_ | (refine W_splitG (sq_stepper hC) _ rfl _ rfl (fun hq => ?_) (fun hq => ?_) <;> ((try simp only [eq_self, not_true_eq_false, not_false_eq_true, bne_self_eq_false, Bool.false_eq_true, Bool.true_eq_false, Bool.and_eq_true, Bool.or_eq_true, Bool.or_eq_false_iff, Bool.not_not, inB_t, inB_f, decide_eq_true_eq, decide_eq_false_iff_not, Bool.not_eq_true', Bool.not_eq_false', Bool.not_eq_true, Bool.not_eq_false, Int.not_lt, Int.not_le, Nat.not_lt, Nat.not_le, reduceCtorEq, decide_true, Bool.not_true] at hq); try (have hq' := hq; clear hq)) <;> first | refine W_skip (d := 54) (sq_stepper hC) rfl rfl ?_ | refine W_cmp (d := 54) (sq_stepper hC) rfl rfl rfl rfl rfl ?_ | refine W_neqStr (d := 54) (sq_stepper hC) rfl rfl rfl rfl ?_ | refine W_neqB (d := 54) (sq_stepper hC) rfl rfl Try.underlying4 rfl rfl ?_))
  try any_goals (first | refine W_pickT (d := 55) (sq_stepper hC) rfl rfl rfl rfl ?_ | refine W_pickF (d := 55) (sq_stepper hC) rfl rfl rfl rfl ?_)
  try any_goals (refine Sq_nil ?_)
  try any_goals (refine G_then ?_)
  try any_goals (first | refine H_condT rfl ?_ | refine H_condF rfl ?_ | (refine H_cond _ rfl (fun hq => ?_) (fun hq => ?_) <;> (try simp only [eq_self, not_true_eq_false, not_false_eq_true, bne_self_eq_false, Bool.false_eq_true, Bool.true_eq_false, Bool.and_eq_true, Bool.or_eq_true, Bool.or_eq_false_iff, Bool.not_not, inB_t, inB_f, decide_eq_true_eq, decide_eq_false_iff_not, Bool.not_eq_true', Bool.not_eq_false', Bool.not_eq_true, Bool.not_eq_false, Int.not_lt, Int.not_le, Nat.not_lt, Nat.not_le, reduceCtorEq, decide_true, Bool.not_true] at hq)))
  try any_goals (refine H_seq ?_)
  try any_goals (refine H_reg ?_)
  try any_goals (first | refine W_assign (d := 8) (sq_stepper hC) rfl rfl rfl ?_)
  try any_goals (refine Sq_nil ?_)
  try any_goals (refine G_then ?_)
  try any_goals (refine H_ret ?_)
  repeat (any_goals (first | refine G_ret_then ?_ | refine G_ret_block ?_))
  try any_goals (refine H_skip ?_)
  try any_goals (refine G_then ?_)
  try any_goals (refine H_seq ?_)
  try any_goals (refine H_seq ?_)
  try any_goals (refine H_reg ?_)
  try any_goals (first | refine W_move (d := 56) (sq_stepper hC) rfl rfl rfl ?_)
  try any_goals (first | refine W_move (d := 57) (sq_stepper hC) rfl rfl rfl ?_)
  try any_goals (first | refine W_ct (d := 58) (sq_stepper hC) (ct_toLegS _ (by have := szN_pos (n := xs.length) (l := 1048576) (Int.not_lt.2 (by assumption)); omega)) rfl rfl rfl (by kernel_rfl) ?_)
  try any_goals (first | refine W_ct (d := 59) (sq_stepper hC) (ct_eqLegS _) rfl rfl rfl (by kernel_rfl) ?_)
  try any_goals (first | refine W_not (d := 60) (sq_stepper hC) rfl rfl rfl ?_)
  try any_goals (refine Sq_nil ?_)
  try any_goals (refine G_then ?_)
  try any_goals (first | refine H_condT rfl ?_ | refine H_condF rfl ?_ | (refine H_cond _ rfl (fun hq => ?_) (fun hq => ?_) <;> (try simp only [eq_self, not_true_eq_false, not_false_eq_true, bne_self_eq_false, Bool.false_eq_true, Bool.true_eq_false, Bool.and_eq_true, Bool.or_eq_true, Bool.or_eq_false_iff, Bool.not_not, inB_t, inB_f, decide_eq_true_eq, decide_eq_false_iff_not, Bool.not_eq_true', Bool.not_eq_false', Bool.not_eq_true, Bool.not_eq_false, Int.not_lt, Int.not_le, Nat.not_lt, Nat.not_le, reduceCtorEq, decide_true, Bool.not_true] at hq)))
  try any_goals (refine H_seq ?_)
  try any_goals (refine H_reg ?_)
  try any_goals (first | refine W_assign (d := 8) (sq_stepper hC) rfl rfl rfl ?_)
  try any_goals (refine Sq_nil ?_)
  try any_goals (refine G_then ?_)
  try any_goals (refine H_ret ?_)
  repeat (any_goals (first | refine G_ret_then ?_ | refine G_ret_block ?_))
  try any_goals (refine H_skip ?_)
  try any_goals (refine G_then ?_)
  try any_goals (refine H_seq ?_)
  try any_goals (refine H_seq ?_)
  try any_goals (refine H_reg ?_)
  try any_goals (first | refine W_move (d := 61) (sq_stepper hC) rfl rfl rfl ?_)
  try any_goals (first | refine W_move (d := 62) (sq_stepper hC) rfl rfl rfl ?_)
  try any_goals (first | refine W_ct (d := 63) (sq_stepper hC) (ct_toIntS _ (by omega)) rfl rfl rfl (by kernel_rfl) ?_)
  try any_goals (first | refine W_ct (d := 64) (sq_stepper hC) (ct_eqIntS _) rfl rfl rfl (by kernel_rfl) ?_)
  try any_goals (first | refine W_not (d := 65) (sq_stepper hC) rfl rfl rfl ?_)
  try any_goals (refine Sq_nil ?_)
  try any_goals (refine G_then ?_)
  try any_goals (first | refine H_condT rfl ?_ | refine H_condF rfl ?_ | (refine H_cond _ rfl (fun hq => ?_) (fun hq => ?_) <;> (try simp only [eq_self, not_true_eq_false, not_false_eq_true, bne_self_eq_false, Bool.false_eq_true, Bool.true_eq_false, Bool.and_eq_true, Bool.or_eq_true, Bool.or_eq_false_iff, Bool.not_not, inB_t, inB_f, decide_eq_true_eq, decide_eq_false_iff_not, Bool.not_eq_true', Bool.not_eq_false', Bool.not_eq_true, Bool.not_eq_false, Int.not_lt, Int.not_le, Nat.not_lt, Nat.not_le, reduceCtorEq, decide_true, Bool.not_true] at hq)))
  try any_goals (refine H_seq ?_)
  try any_goals (refine H_reg ?_)
  try any_goals (first | refine W_assign (d := 8) (sq_stepper hC) rfl rfl rfl ?_)
  try any_goals (refine Sq_nil ?_)
  try any_goals (refine G_then ?_)
  try any_goals (refine H_ret ?_)
  repeat (any_goals (first | refine G_ret_then ?_ | refine G_ret_block ?_))
  try any_goals (refine H_skip ?_)
  try any_goals (refine G_then ?_)
  try any_goals (refine H_seq ?_)
  try any_goals (refine H_reg ?_)
  try any_goals (first | refine W_assign (d := 8) (sq_stepper hC) rfl rfl rfl ?_)
  try any_goals (refine Sq_nil ?_)
  try any_goals (refine G_then ?_)
  try any_goals (refine H_ret ?_)
  repeat (any_goals (first | refine G_ret_then ?_ | refine G_ret_block ?_))
  all_goals exact R1v rfl (fun _ h => h) rfl rfl
end Go.Proofs.Ytdpcbbbfikhiiaa

/- DepartureOrder: an order in which vehicles can leave, in plain terms; the reference's side. -/
import Derived.Test.YtbipnenkgkebjaaAsH
import Derived.Test.YtbipnenkgkebjaaShp
namespace Go.Proofs.Ytbipnenkgkebjaa
set_option linter.unusedSimpArgs false
set_option linter.unusedVariables false
open Go.RowKit Go.ChangeShapes Go.WideShapes Go.ChangeAt Go.Deep
/-- The first that can leave. -/
def orF (w : List Int) (d : Dep) : Int := firstI (fun j => tkB d.T (ix w j)) w.length
theorem orF_bd {w : List Int} {d : Dep} : -1 ≤ orF w d ∧ orF w d < w.length := firstI_bd
theorem orF_val {w : List Int} {d : Dep} (h : 0 ≤ orF w d) : tkB d.T (ix w (orF w d)) = true := by
  have h1 := firstI_val (q := fun j : Nat => tkB d.T (ix w j)) (n := w.length) h
  have e : ((orF w d).toNat : Int) = orF w d := by omega
  have h2 : tkB d.T (ix w ((orF w d).toNat : Int)) = true := h1
  rwa [e] at h2
/-- Those that are still there. -/
def orL (w : List Int) (d : Dep) : List Int := w.filter fun x => decide (0 ≤ plI d.T x)
def fndP (q : Int → Bool) (w : List Int) : Int := firstI (fun j => q (ix w j)) w.length
theorem fndP_nil {q : Int → Bool} : fndP q [] = -1 := rfl
theorem fndP_cons {q : Int → Bool} {x : Int} {w : List Int} : fndP q (x :: w) = if q x then 0 else if fndP q w < 0 then -1 else fndP q w + 1 := by
  have e0 : ix (x :: w) ((0 : Nat) : Int) = x := rfl
  have es : ∀ j : Nat, ix (x :: w) ((j + 1 : Nat) : Int) = ix w (j : Int) := fun j => by simp [ix]
  unfold fndP
  by_cases hx : q x = true
  · rw [if_pos hx]
    exact firstI_some (q := fun j : Nat => q (ix (x :: w) j)) (i := 0) (by show q (ix (x :: w) ((0 : Nat) : Int)) = true; rw [e0]; exact hx) (fun j hj => absurd hj (Nat.not_lt_zero _)) (by simp)
  · rw [if_neg hx]
    have hbd := firstI_bd (q := fun j : Nat => q (ix w j)) (n := w.length)
    by_cases hn : firstI (fun j : Nat => q (ix w j)) w.length < 0
    · rw [if_pos hn]
      refine firstI_none (q := fun j : Nat => q (ix (x :: w) j)) fun j hj => ?_
      cases j with
      | zero => show q (ix (x :: w) ((0 : Nat) : Int)) = false; rw [e0]; simpa using hx
      | succ j =>
        show q (ix (x :: w) ((j + 1 : Nat) : Int)) = false
        rw [es]
        cases hq : q (ix w (j : Int))
        · rfl
        · have := firstI_le (q := fun j : Nat => q (ix w j)) (i := j) hq (n := w.length) (by simpa using hj)
          omega
    · rw [if_neg hn]
      have hv := firstI_val (q := fun j : Nat => q (ix w j)) (n := w.length) (by omega)
      have hb : ∀ j : Nat, j < (firstI (fun j : Nat => q (ix w j)) w.length).toNat → q (ix w (j : Int)) = false := fun j hj => by
        cases hq : q (ix w (j : Int))
        · rfl
        · have := firstI_le (q := fun j : Nat => q (ix w j)) (i := j) hq (n := w.length) (by omega)
          omega
      have := firstI_some (q := fun j : Nat => q (ix (x :: w) j)) (i := (firstI (fun j : Nat => q (ix w j)) w.length).toNat + 1) (by rw [es]; exact hv) (fun j hj => by
        cases j with
        | zero => rw [e0]; simpa using hx
        | succ j => rw [es]; exact hb j (by omega)) (n := (x :: w).length) (by rw [List.length_cons]; omega)
      rw [this]
      omega
theorem ix_cons {x : Int} {w : List Int} {k : Int} (h : 0 ≤ k) : ix (x :: w) (k + 1) = ix w k := by
  unfold ix
  rw [show (k + 1).toNat = k.toNat + 1 by omega, List.getD_cons_succ]
/-- Those that cannot be taken may be left out. -/
theorem fndP_filter {q p : Int → Bool} : ∀ {w : List Int}, (∀ x ∈ w, q x = true → p x = true) → (fndP q (w.filter p) < 0 ↔ fndP q w < 0) ∧ (0 ≤ fndP q w → ix (w.filter p) (fndP q (w.filter p)) = ix w (fndP q w))
  | [], _ => by simp [fndP_nil]
  | x :: w, h => by
    have ih := fndP_filter (q := q) (p := p) (w := w) fun y hy => h y (List.mem_cons_of_mem _ hy)
    have hb1 := firstI_bd (q := fun j : Nat => q (ix w j)) (n := w.length)
    have hb2 := firstI_bd (q := fun j : Nat => q (ix (w.filter p) j)) (n := (w.filter p).length)
    have hb1 : -1 ≤ fndP q w := hb1.1
    have hb2 : -1 ≤ fndP q (w.filter p) := hb2.1
    by_cases hx : p x = true
    · rw [List.filter_cons_of_pos hx, fndP_cons, fndP_cons]
      by_cases hq : q x = true
      · rw [if_pos hq, if_pos hq]
        exact ⟨Iff.rfl, fun _ => rfl⟩
      · rw [if_neg hq, if_neg hq]
        by_cases hn : fndP q w < 0
        · rw [if_pos hn, if_pos (ih.1.2 hn)]
          exact ⟨Iff.rfl, fun h => absurd h (by omega)⟩
        · have hn2 : ¬ fndP q (w.filter p) < 0 := fun h => hn (ih.1.1 h)
          rw [if_neg hn, if_neg hn2]
          refine ⟨by omega, fun _ => ?_⟩
          rw [ix_cons (by omega), ix_cons (by omega)]
          exact ih.2 (by omega)
    · have hq : ¬ q x = true := fun h2 => hx (h x List.mem_cons_self h2)
      rw [List.filter_cons_of_neg hx, fndP_cons, if_neg hq]
      by_cases hn : fndP q w < 0
      · rw [if_pos hn]
        exact ⟨⟨fun _ => by omega, fun _ => ih.1.2 hn⟩, fun h => absurd h (by omega)⟩
      · rw [if_neg hn]
        refine ⟨⟨fun h => absurd (ih.1.1 h) hn, fun h => by omega⟩, fun _ => ?_⟩
        rw [ix_cons (by omega)]
        exact ih.2 (by omega)
theorem orF_L {w : List Int} {d : Dep} : (orF (orL w d) d < 0 ↔ orF w d < 0) ∧ (0 ≤ orF w d → ix (orL w d) (orF (orL w d) d) = ix w (orF w d)) :=
  fndP_filter (q := fun x => tkB d.T x) (p := fun x => decide (0 ≤ plI d.T x)) fun x _ hx => decide_eq_true (tkB_t hx).1
/-- One without its k-th. -/
theorem filter_erase {w : List Int} (hn : w.Nodup) {k : Nat} (hk : k < w.length) {p : Int → Bool} (hp : ∀ x ∈ w, p x = decide (x ≠ ix w (k : Int))) : w.filter p = w.eraseIdx k := by
  induction w generalizing k with
  | nil => simp at hk
  | cons x w ih =>
    obtain ⟨h1, h2⟩ := List.nodup_cons.1 hn
    cases k with
    | zero =>
      have e0 : ix (x :: w) ((0 : Nat) : Int) = x := rfl
      rw [e0] at hp
      rw [List.filter_cons_of_neg (by rw [hp x List.mem_cons_self]; simp), List.eraseIdx_cons_zero]
      refine List.filter_eq_self.2 fun y hy => ?_
      rw [hp y (List.mem_cons_of_mem _ hy)]
      exact decide_eq_true fun e => h1 (e ▸ hy)
    | succ k =>
      have es : ix (x :: w) ((k + 1 : Nat) : Int) = ix w (k : Int) := by simp [ix]
      rw [es] at hp
      have hk' : k < w.length := by simpa using hk
      have hm : ix w (k : Int) ∈ w := mem_ix (by omega) (by omega)
      rw [List.filter_cons_of_pos (by rw [hp x List.mem_cons_self]; exact decide_eq_true fun e => h1 (e ▸ hm)), List.eraseIdx_cons_succ, ih h2 hk' fun y hy => hp y (List.mem_cons_of_mem _ hy)]
/-- The depot, and the order, after some. -/
def orD (w : List Int) (d : Dep) : Nat → Dep
  | 0 => d
  | m + 1 => tkD (orD w d m) (ix w (orF w (orD w d m)))
def orX (w : List Int) (d : Dep) : Nat → List Int
  | 0 => []
  | m + 1 => orX w d m ++ [ix w (orF w (orD w d m))]
theorem orX_len {w : List Int} {d : Dep} : ∀ {m : Nat}, (orX w d m).length = m
  | 0 => rfl
  | m + 1 => by rw [orX, List.length_append, orX_len]; rfl
def orO (w : List Int) (d : Dep) : Bool := (List.range w.length).all fun m => decide (0 ≤ orF w (orD w d m))
theorem orO_y {w : List Int} {d : Dep} (h : ∀ m, m < w.length → 0 ≤ orF w (orD w d m)) : orO w d = true := by
  rw [orO, List.all_eq_true]
  intro m hm
  exact decide_eq_true (h m (List.mem_range.1 hm))
theorem orO_n {w : List Int} {d : Dep} {m : Nat} (hm : m < w.length) (h : orF w (orD w d m) < 0) : orO w d = false := by
  rw [orO, List.all_eq_false]
  exact ⟨m, List.mem_range.2 hm, by simp; omega⟩
structure OrI (w : List Int) (d0 : Dep) (m : Nat) (d : Dep) : Prop where
  v : DvI d
  n : DvN d
  t : d.T.length = d0.T.length
  l : (orL w d).length + m = w.length
theorem OrI.s {w : List Int} {d0 d : Dep} {m : Nat} (h : OrI w d0 m d) (hw : w.Nodup) (h0 : 0 ≤ orF w d) : OrI w d0 (m + 1) (tkD d (ix w (orF w d))) ∧ orL w (tkD d (ix w (orF w d))) = (orL w d).eraseIdx (orF (orL w d) d).toNat := by
  have hv := orF_val h0
  have hb := orF_bd (w := w) (d := d)
  have hm : ix w (orF w d) ∈ w := mem_ix h0 hb.2
  obtain ⟨h1, h2⟩ := orF_L (w := w) (d := d)
  have h2 := h2 h0
  have hbl := orF_bd (w := orL w d) (d := d)
  have h0l : 0 ≤ orF (orL w d) d := by
    rcases Int.lt_or_le (orF (orL w d) d) 0 with h3 | h3
    · exact absurd (h1.1 h3) (by omega)
    · exact h3
  have hk := h.n.tk hv
  have hnd : (orL w d).Nodup := List.Nodup.sublist List.filter_sublist hw
  have e : orL w (tkD d (ix w (orF w d))) = (orL w d).eraseIdx (orF (orL w d) d).toNat := by
    rw [← filter_erase (p := fun x => decide (x ≠ ix w (orF w d))) hnd (by omega) (fun x _ => by rw [show (((orF (orL w d) d).toNat : Nat) : Int) = orF (orL w d) d by omega, h2]), orL, orL, List.filter_filter]
    refine List.filter_congr fun x hx => ?_
    rw [tkD_y hv]
    by_cases hx2 : x = ix w (orF w d)
    · subst hx2
      rw [decide_eq_false (by have := hk.2; show ¬ 0 ≤ plI (tkT d.T _) _; omega), decide_eq_false (by simp)]
      rfl
    · rw [decide_eq_true hx2, Bool.true_and]
      exact decide_eq_decide.2 (tk_mem hv hx2)
  refine ⟨⟨by rw [tkD_y hv]; exact h.v.tk hv, by rw [tkD_y hv]; exact hk.1, tkD_l.trans h.t, ?_⟩, e⟩
  have := h.l
  rw [e, List.length_eraseIdx, if_pos (by omega)]
  omega
theorem OrI.go {w : List Int} {d : Dep} (hv : DvI d) (hn : DvN d) (hw : w.Nodup) (hin : ∀ x ∈ w, 0 ≤ plI d.T x) : ∀ {m : Nat}, (∀ j, j < m → 0 ≤ orF w (orD w d j)) → OrI w d m (orD w d m)
  | 0, _ => ⟨hv, hn, rfl, by
    have : orL w (orD w d 0) = w := List.filter_eq_self.2 fun x hx => decide_eq_true (hin x hx)
    rw [this]; rfl⟩
  | m + 1, hf => ((OrI.go hv hn hw hin (m := m) fun j hj => hf j (by omega)).s hw (hf m (Nat.lt_succ_self m))).1
end Go.Proofs.Ytbipnenkgkebjaa
namespace Go.Proofs.Ytbipnenkgkebjaa
open Go.RowKit Go.ChangeShapes Go.WideShapes Go.ChangeAt Go.Deep
def orR (w : List Int) (d : Dep) : List Int := if orO w d then orX w d w.length else []
theorem orR_y {w : List Int} {d : Dep} (h : orO w d = true) : orR w d = orX w d w.length := by rw [orR, h]; rfl
theorem orR_n {w : List Int} {d : Dep} (h : orO w d = false) : orR w d = [] := by rw [orR, h]; rfl
theorem orF_at {w : List Int} {d : Dep} {i : Nat} (hi : i < w.length) (h : tkB d.T (ix w (i : Int)) = true) (hb : ∀ j : Nat, j < i → tkB d.T (ix w (j : Int)) = false) : orF w d = i := firstI_some (q := fun j : Nat => tkB d.T (ix w j)) h hb hi
theorem orF_no {w : List Int} {d : Dep} (hb : ∀ j : Nat, j < w.length → tkB d.T (ix w (j : Int)) = false) : orF w d = -1 := firstI_none (q := fun j : Nat => tkB d.T (ix w j)) hb
set_option maxHeartbeats 2000000 in
theorem ct_l15Order {e : Option TypeId} (w0 : List Int) (d : Dep) (hv : DvI d) (hn : DvN d) (hw : w0.Nodup) (hin : ∀ x ∈ w0, 0 ≤ plI d.T x) (hl : w0.length ≤ 1048576) (n : Nat) : ∀ m : Nat, w0.length - m ≤ n → m ≤ w0.length → (∀ j, j < m → 0 ≤ orF w0 (orD w0 d j)) → CT Try.prog 55 [.inr (uA bDep (orD w0 d m)), .inr (uS e pI w0), .inr (uS (some 3) pI (orX w0 d m))] (.inr (uT [.inr (uS (some 3) pI (orR w0 d)), .inl (.bool (orO w0 d))])) := by
  induction n with
  | zero => ?_
  | succ n ih => ?_
  all_goals intro m hm hml hfj
  all_goals have hI := OrI.go hv hn hw hin hfj
  all_goals have hxl := orX_len (w := w0) (d := d) (m := m)
  · refine CT_of Try.func55 rfl rfl rfl (fun w => ?_)
    have hC := upC_ext w
    have e0 : m = w0.length := by omega
    have ho : orO w0 d = true := orO_y (by rw [← e0]; exact hfj)
    try any_goals (refine H_seq ?_)
    try any_goals (have hE : Ext _ _ := Ext.refl w)
    try any_goals (refine H_open 0 rfl (fun q u0 hw hr0 => ?_); have hE := hE.trans hw)
    try any_goals (refine H_open 1 rfl (fun q u1 hw hr1 => ?_); have hE := hE.trans hw; have hr0 := UR.lift hw hr0)
    try any_goals (refine H_open 2 rfl (fun q u2 hw hr2 => ?_); have hE := hE.trans hw; have hr0 := UR.lift hw hr0; have hr1 := UR.lift hw hr1)
    try any_goals (refine H_weakenC (C' := Sep q []) (fun w' h => sep_start h) ?_; have hC : UpC (Sep q []) := upC_sep)
    try any_goals (obtain ⟨cs0, rfl, hf0⟩ := id hr0)
    try any_goals (refine H_reg ?_)
    try any_goals (refine Sq_boxS (d := 3) rfl rfl (fun g3 => ?_))
    try any_goals (refine W_assign (d := 6) (sq_stepper upC_sep) rfl rfl rfl ?_)
    try any_goals (refine W_assign (d := 7) (sq_stepper upC_sep) rfl rfl rfl ?_)
    try any_goals (first | (refine Sq_nil ?_; try refine G_then ?_) | refine G_then ?_)
    try any_goals (refine H_seq ?_)
    try any_goals (first | (refine H_seq ?_; try refine H_reg ?_) | refine H_reg ?_)
    try any_goals (first | refine W_moveR (d := 13) (sq_stepper upC_sep) (U := uS (some 3) pI (orX w0 d m)) (fun w' h => UR.lift (Sep.ext h) hr2) rfl rfl rfl ?_ | refine W_move (d := 13) (sq_stepper upC_sep) rfl rfl rfl ?_)
    try any_goals (first | refine W_len (d := 14) (sq_stepper upC_sep) (by kernel_rfl) rfl rfl rfl ?_ | refine W_lenStr (d := 14) (sq_stepper upC_sep) (by kernel_rfl) rfl rfl rfl ?_)
    try any_goals (first | refine W_moveR (d := 15) (sq_stepper upC_sep) (U := uS e pI w0) (fun w' h => UR.lift (Sep.ext h) hr1) rfl rfl rfl ?_ | refine W_move (d := 15) (sq_stepper upC_sep) rfl rfl rfl ?_)
    try any_goals (first | refine W_len (d := 16) (sq_stepper upC_sep) (by kernel_rfl) rfl rfl rfl ?_ | refine W_lenStr (d := 16) (sq_stepper upC_sep) (by kernel_rfl) rfl rfl rfl ?_)
    try any_goals (first | refine W_cmp (d := 17) (sq_stepper upC_sep) rfl rfl rfl rfl rfl ?_ | refine W_eqlStr (d := 17) (sq_stepper upC_sep) rfl rfl rfl rfl ?_ | refine W_eqlB (d := 17) (sq_stepper upC_sep) rfl rfl Try.underlying4 rfl rfl ?_)
    try any_goals (first | (refine Sq_nil ?_; try refine G_then ?_) | refine G_then ?_)
    try any_goals (first | refine H_condT rfl ?_ | refine H_condF rfl (Wt.un 0 ?_) | (refine H_cond _ rfl (fun hq => ?_) (fun hq => Wt.un 0 ?_) <;> (try simp only [hqs, reduceCtorEq] at hq)))
    try any_goals (first | ((exfalso; omega)) | skip)
    try any_goals (first | (refine H_seq ?_; try refine H_reg ?_) | refine H_reg ?_)
    try any_goals (first | refine W_moveR (d := 18) (sq_stepper upC_sep) (U := uS (some 3) pI (orX w0 d m)) (fun w' h => UR.lift (Sep.ext h) hr2) rfl rfl rfl ?_ | refine W_move (d := 18) (sq_stepper upC_sep) rfl rfl rfl ?_)
    try any_goals (refine W_assign (d := 6) (sq_stepper upC_sep) rfl rfl rfl ?_)
    try any_goals (refine W_assign (d := 7) (sq_stepper upC_sep) rfl rfl rfl ?_)
    try any_goals (first | (refine Sq_nil ?_; try refine G_then ?_) | refine G_then ?_)
    try any_goals (refine H_ret ?_)
    repeat (any_goals (first | refine G_ret_then ?_ | refine G_ret_block ?_))
    try any_goals (refine G_hold 1 ?_)
    try any_goals (refine Wt.out 0 ?_)
    try any_goals (refine H_skip ?_)
    try any_goals (refine Wt.out 1 ?_)
    try any_goals (refine G_then ?_)
    try any_goals (refine H_seq ?_)
    try any_goals (first | (refine H_seq ?_; try refine H_reg ?_) | refine H_reg ?_)
    try any_goals (refine W_assign (d := 8) (sq_stepper upC_sep) rfl rfl rfl ?_)
    try any_goals (first | (refine Sq_nil ?_; try refine G_then ?_) | refine G_then ?_)
    try any_goals (refine H_block ?_)
    try any_goals ((fail))
    try any_goals (refine H_seq ?_)
    try any_goals (first | (refine H_seq ?_; try refine H_reg ?_) | refine H_reg ?_)
    try any_goals (refine W_move (d := 19) (sq_stepper upC_sep) rfl rfl rfl ?_)
    try any_goals (first | refine W_moveR (d := 20) (sq_stepper upC_sep) (U := uS e pI w0) (fun w' h => UR.lift (Sep.ext h) hr1) rfl rfl rfl ?_ | refine W_move (d := 20) (sq_stepper upC_sep) rfl rfl rfl ?_)
    try any_goals (first | refine W_len (d := 21) (sq_stepper upC_sep) (by kernel_rfl) rfl rfl rfl ?_ | refine W_lenStr (d := 21) (sq_stepper upC_sep) (by kernel_rfl) rfl rfl rfl ?_)
    try any_goals (first | refine W_cmp (d := 22) (sq_stepper upC_sep) rfl rfl rfl rfl rfl ?_ | refine W_strcmp (d := 22) (sq_stepper upC_sep) rfl rfl rfl rfl rfl ?_)
    try any_goals (first | (refine Sq_nil ?_; try refine G_then ?_) | refine G_then ?_)
    try any_goals (first | refine H_condT rfl ?_ | refine H_condF rfl (Wt.un 2 ?_) | (refine H_cond _ rfl (fun hq => ?_) (fun hq => Wt.un 2 ?_) <;> (try simp only [hqs, reduceCtorEq] at hq)))
    try any_goals (first | ((exfalso; omega)) | skip)
    try any_goals (refine H_skip ?_)
    try any_goals (refine G_hold 3 ?_)
    try any_goals (refine Wt.out 2 ?_)
    try any_goals (refine H_exit ?_)
    repeat (any_goals (first | refine G_exit_then ?_ | refine G_exit_here ?_ | refine G_exit_far rfl ?_))
    try any_goals (refine G_hold 4 ?_)
    try any_goals (refine Wt.out 3 ?_)
    try any_goals (refine G_then ?_)
    try any_goals (refine H_seq ?_)
    try any_goals (refine H_block ?_)
    try any_goals (refine H_seq ?_)
    try any_goals (refine H_draw' (by kernel_rfl) upC_sep ?_)
    try any_goals (refine W_loadA (d := 26) wk_stepper (by kernel_rfl) rfl rfl rfl ?_)
    try any_goals (first | refine W_moveR (d := 27) wk_stepper (U := uS e pI w0) (fun w' h => UR.lift (Sep.ext h) hr1) rfl rfl rfl ?_ | refine W_move (d := 27) wk_stepper rfl rfl rfl ?_)
    try any_goals (refine W_move (d := 28) wk_stepper rfl rfl rfl ?_)
    try any_goals (refine W_index (d := 29) wk_stepper (by kernel_rfl) rfl rfl rfl rfl (by first | omega | (dsimp only; omega)) ?_)
    try any_goals (refine W_loadI (d := 30) wk_stepper (by kernel_rfl) rfl rfl rfl ?_)
    try any_goals (fail)
    try any_goals (refine W_move (d := 25) wk_stepper rfl rfl rfl ?_)
    try any_goals (refine W_extract (d := 32) wk_stepper rfl rfl rfl rfl ?_)
    try any_goals (refine W_extract (d := 33) wk_stepper rfl rfl rfl rfl ?_)
    try any_goals (refine Sq_alloc (d := 9) (by kernel_rfl) hC rfl ?_)
    try any_goals (refine Wk_none (by kernel_rfl) (by kernel_rfl) ?_)
    try any_goals (first | refine Pend_storeA (by kernel_rfl) hC rfl rfl ?_ | refine Pend_storeI (by kernel_rfl) hC rfl rfl ?_)
    try any_goals (refine W_assign (d := 10) (sq_stepper upC_sep) rfl rfl rfl ?_)
    try any_goals (first | (refine Sq_nil ?_; try refine G_then ?_) | refine G_then ?_)
    try any_goals (refine H_seq ?_)
    try any_goals (first | (refine H_seq ?_; try refine H_reg ?_) | refine H_reg ?_)
    try any_goals (refine W_move (d := 34) (sq_stepper upC_sep) rfl rfl rfl ?_)
    try any_goals (refine W_not (d := 35) (sq_stepper upC_sep) rfl rfl rfl ?_)
    try any_goals (first | (refine Sq_nil ?_; try refine G_then ?_) | refine G_then ?_)
    try any_goals (first | refine H_condT rfl ?_ | refine H_condF rfl (Wt.un 5 ?_) | (refine H_cond _ rfl (fun hq => ?_) (fun hq => Wt.un 5 ?_) <;> (try simp only [hqs, reduceCtorEq] at hq)))
    try any_goals (first | ((exfalso; omega)) | skip)
    try any_goals (refine H_exit ?_)
    repeat (any_goals (first | refine G_exit_then ?_ | refine G_exit_here ?_ | refine G_exit_far rfl ?_))
    try any_goals (refine G_hold 7 ?_)
    try any_goals (refine Wt.out 5 ?_)
    try any_goals (refine H_skip ?_)
    try any_goals (refine Wt.out 6 ?_)
    try any_goals (refine G_then ?_)
    try any_goals (refine H_seq ?_)
    try any_goals (refine H_seq ?_)
    try any_goals (refine H_draw' (by kernel_rfl) upC_sep ?_)
    try any_goals (refine W_loadA (d := 37) wk_stepper (by kernel_rfl) rfl rfl rfl ?_)
    try any_goals (first | refine W_moveR (d := 38) wk_stepper (U := uS e pI w0) (fun w' h => UR.lift (Sep.ext h) hr1) rfl rfl rfl ?_ | refine W_move (d := 38) wk_stepper rfl rfl rfl ?_)
    try any_goals (first | refine W_moveR (d := 39) wk_stepper (U := uS (some 3) pI (orX w0 d m)) (fun w' h => UR.lift (Sep.ext h) hr2) rfl rfl rfl ?_ | refine W_move (d := 39) wk_stepper rfl rfl rfl ?_)
    try any_goals (fail)
    try any_goals (first | refine W_moveR (d := 41) wk_stepper (U := uS e pI w0) (fun w' h => UR.lift (Sep.ext h) hr1) rfl rfl rfl ?_ | refine W_move (d := 41) wk_stepper rfl rfl rfl ?_)
    try any_goals (refine W_move (d := 42) wk_stepper rfl rfl rfl ?_)
    try any_goals (refine W_index (d := 43) wk_stepper (by kernel_rfl) rfl rfl rfl rfl (by first | omega | (dsimp only; omega)) ?_)
    try any_goals (refine W_loadI (d := 44) wk_stepper (by kernel_rfl) rfl rfl rfl ?_)
    try any_goals (refine W_buildS (d := 45) wk_stepper [(Operand.tmp 44)] pI [_] (e := 3) (by kernel_rfl) (by kernel_rfl) rfl rfl (by kernel_rfl) rfl rfl rfl ⟨elem_I, trivial⟩ ?_)
    try any_goals (fail)
    try any_goals (fail)
    try any_goals (refine W_move (d := 36) wk_stepper rfl rfl rfl ?_)
    try any_goals (refine W_extract (d := 48) wk_stepper rfl rfl rfl rfl ?_)
    try any_goals (refine W_extract (d := 49) wk_stepper rfl rfl rfl rfl ?_)
    try any_goals (refine W_assign (d := 11) wk_stepper rfl rfl rfl ?_)
    try any_goals (refine Wk_assign (by kernel_rfl) (by kernel_rfl) ?_)
    try any_goals (refine W_assign (d := 12) (sq_stepper upC_sep) rfl rfl rfl ?_)
    try any_goals (first | (refine Sq_nil ?_; try refine G_then ?_) | refine G_then ?_)
    try any_goals (first | (refine H_seq ?_; try refine H_reg ?_) | refine H_reg ?_)
    try any_goals (refine W_move (d := 50) (sq_stepper upC_sep) rfl rfl rfl ?_)
    try any_goals (first | (refine Sq_nil ?_; try refine G_then ?_) | refine G_then ?_)
    try any_goals (first | refine H_condT rfl ?_ | refine H_condF rfl (Wt.un 8 ?_) | (refine H_cond _ rfl (fun hq => ?_) (fun hq => Wt.un 8 ?_) <;> (try simp only [hqs, reduceCtorEq] at hq)))
    try any_goals (first | ((exfalso; omega)) | skip)
    try any_goals (first | (refine H_seq ?_; try refine H_reg ?_) | refine H_reg ?_)
    try any_goals (refine W_move (d := 51) (sq_stepper upC_sep) rfl rfl rfl ?_)
    try any_goals (refine W_assign (d := 6) (sq_stepper upC_sep) rfl rfl rfl ?_)
    try any_goals (refine W_assign (d := 7) (sq_stepper upC_sep) rfl rfl rfl ?_)
    try any_goals (first | (refine Sq_nil ?_; try refine G_then ?_) | refine G_then ?_)
    try any_goals (refine H_ret ?_)
    repeat (any_goals (first | refine G_ret_then ?_ | refine G_ret_block ?_))
    try any_goals (refine G_hold 9 ?_)
    try any_goals (refine Wt.out 8 ?_)
    try any_goals (refine H_skip ?_)
    try any_goals (refine Wt.out 9 ?_)
    try any_goals (refine G_then ?_)
    try any_goals (first | (refine H_seq ?_; try refine H_reg ?_) | refine H_reg ?_)
    try any_goals (refine W_buildS (d := 52) (sq_stepper upC_sep) [] pI [] (e := 3) (by kernel_rfl) (by kernel_rfl) rfl rfl (by kernel_rfl) rfl rfl rfl trivial ?_)
    try any_goals (refine W_assign (d := 6) (sq_stepper upC_sep) rfl rfl rfl ?_)
    try any_goals (refine W_assign (d := 7) (sq_stepper upC_sep) rfl rfl rfl ?_)
    try any_goals (first | (refine Sq_nil ?_; try refine G_then ?_) | refine G_then ?_)
    try any_goals (refine H_ret ?_)
    repeat (any_goals (first | refine G_ret_then ?_ | refine G_ret_block ?_))
    try any_goals (refine Wt.out 7 ?_)
    repeat (any_goals (first | refine G_exit_then ?_ | refine G_exit_here ?_ | refine G_exit_far rfl ?_ | refine G_normal_block ?_))
    try any_goals (refine G_then ?_)
    try any_goals (refine H_reg ?_)
    try any_goals (refine W_move (d := 23) (sq_stepper upC_sep) rfl rfl rfl ?_)
    try any_goals (refine W_ar (d := 24) (sq_stepper upC_sep) rfl rfl rfl rfl rfl (by first | omega | (dsimp only; omega)) ?_)
    try any_goals (refine W_assign (d := 8) (sq_stepper upC_sep) rfl rfl rfl ?_)
    try any_goals (refine Sq_nil ?_)
    try any_goals (refine Wt.out 4 ?_)
    repeat (any_goals (first | refine G_exit_then ?_ | refine G_exit_here ?_ | refine G_exit_far rfl ?_ | refine G_normal_block ?_))
    try any_goals (refine G_then ?_)
    try any_goals (first | (refine H_seq ?_; try refine H_reg ?_) | refine H_reg ?_)
    try any_goals (refine W_buildS (d := 53) (sq_stepper upC_sep) [] pI [] (e := 3) (by kernel_rfl) (by kernel_rfl) rfl rfl (by kernel_rfl) rfl rfl rfl trivial ?_)
    try any_goals (refine W_assign (d := 6) (sq_stepper upC_sep) rfl rfl rfl ?_)
    try any_goals (refine W_assign (d := 7) (sq_stepper upC_sep) rfl rfl rfl ?_)
    try any_goals (first | (refine Sq_nil ?_; try refine G_then ?_) | refine G_then ?_)
    try any_goals (refine H_ret ?_)
    repeat (any_goals (first | refine G_ret_then ?_ | refine G_ret_block ?_))
    all_goals first
      | exact R2 rfl (fun _ h => hE.trans h.ext) rfl rfl (fun v w' hc hv => by rw [orR_y ho, ← e0]; exact hv) (fun v w' _ hv => by rw [ho]; exact hv)
      | trace_state
  · refine CT_of Try.func55 rfl rfl rfl (fun w => ?_)
    have hC := upC_ext w
    have hfb := orF_bd (w := w0) (d := orD w0 d m)
    try any_goals (refine H_seq ?_)
    try any_goals (have hE : Ext _ _ := Ext.refl w)
    try any_goals (refine H_open 0 rfl (fun q u0 hw hr0 => ?_); have hE := hE.trans hw)
    try any_goals (refine H_open 1 rfl (fun q u1 hw hr1 => ?_); have hE := hE.trans hw; have hr0 := UR.lift hw hr0)
    try any_goals (refine H_open 2 rfl (fun q u2 hw hr2 => ?_); have hE := hE.trans hw; have hr0 := UR.lift hw hr0; have hr1 := UR.lift hw hr1)
    try any_goals (refine H_weakenC (C' := Sep q []) (fun w' h => sep_start h) ?_; have hC : UpC (Sep q []) := upC_sep)
    try any_goals (obtain ⟨cs0, rfl, hf0⟩ := id hr0)
    try any_goals (refine H_reg ?_)
    try any_goals (refine Sq_boxS (d := 3) rfl rfl (fun g3 => ?_); refine Sq_weaken (C' := Sep q [lcD g3 (orD w0 d m)]) (fun w' h => Sep.asL' (m := 0) h rfl (bDep.up _ _ _ _ (Sep.ext h) hf0)) ?_)
    try any_goals (refine W_assign (d := 6) (sq_stepper upC_sep) rfl rfl rfl ?_)
    try any_goals (refine W_assign (d := 7) (sq_stepper upC_sep) rfl rfl rfl ?_)
    try any_goals (first | (refine Sq_nil ?_; try refine G_then ?_) | refine G_then ?_)
    try any_goals (refine H_seq ?_)
    try any_goals (first | (refine H_seq ?_; try refine H_reg ?_) | refine H_reg ?_)
    try any_goals (first | refine W_moveR (d := 13) (sq_stepper upC_sep) (U := uS (some 3) pI (orX w0 d m)) (fun w' h => UR.lift (Sep.ext h) hr2) rfl rfl rfl ?_ | refine W_move (d := 13) (sq_stepper upC_sep) rfl rfl rfl ?_)
    try any_goals (first | refine W_len (d := 14) (sq_stepper upC_sep) (by kernel_rfl) rfl rfl rfl ?_ | refine W_lenStr (d := 14) (sq_stepper upC_sep) (by kernel_rfl) rfl rfl rfl ?_)
    try any_goals (first | refine W_moveR (d := 15) (sq_stepper upC_sep) (U := uS e pI w0) (fun w' h => UR.lift (Sep.ext h) hr1) rfl rfl rfl ?_ | refine W_move (d := 15) (sq_stepper upC_sep) rfl rfl rfl ?_)
    try any_goals (first | refine W_len (d := 16) (sq_stepper upC_sep) (by kernel_rfl) rfl rfl rfl ?_ | refine W_lenStr (d := 16) (sq_stepper upC_sep) (by kernel_rfl) rfl rfl rfl ?_)
    try any_goals (first | refine W_cmp (d := 17) (sq_stepper upC_sep) rfl rfl rfl rfl rfl ?_ | refine W_eqlStr (d := 17) (sq_stepper upC_sep) rfl rfl rfl rfl ?_ | refine W_eqlB (d := 17) (sq_stepper upC_sep) rfl rfl Try.underlying4 rfl rfl ?_)
    try any_goals (first | (refine Sq_nil ?_; try refine G_then ?_) | refine G_then ?_)
    try any_goals (first | refine H_condT rfl ?_ | refine H_condF rfl (Wt.un 0 ?_) | (refine H_cond _ rfl (fun hq => ?_) (fun hq => Wt.un 0 ?_) <;> (try simp only [hqs, reduceCtorEq] at hq)))
    try any_goals (first | (refine H_seq ?_; try refine H_reg ?_) | refine H_reg ?_)
    try any_goals (first | refine W_moveR (d := 18) (sq_stepper upC_sep) (U := uS (some 3) pI (orX w0 d m)) (fun w' h => UR.lift (Sep.ext h) hr2) rfl rfl rfl ?_ | refine W_move (d := 18) (sq_stepper upC_sep) rfl rfl rfl ?_)
    try any_goals (refine W_assign (d := 6) (sq_stepper upC_sep) rfl rfl rfl ?_)
    try any_goals (refine W_assign (d := 7) (sq_stepper upC_sep) rfl rfl rfl ?_)
    try any_goals (first | (refine Sq_nil ?_; try refine G_then ?_) | refine G_then ?_)
    try any_goals (refine H_ret ?_)
    repeat (any_goals (first | refine G_ret_then ?_ | refine G_ret_block ?_))
    try any_goals (refine G_hold 1 ?_)
    try any_goals (refine Wt.out 0 ?_)
    try any_goals (refine H_skip ?_)
    try any_goals (refine Wt.out 1 ?_)
    try any_goals (refine G_then ?_)
    try any_goals (refine H_seq ?_)
    try any_goals (first | (refine H_seq ?_; try refine H_reg ?_) | refine H_reg ?_)
    try any_goals (refine W_assign (d := 8) (sq_stepper upC_sep) rfl rfl rfl ?_)
    try any_goals (first | (refine Sq_nil ?_; try refine G_then ?_) | refine G_then ?_)
    try any_goals (refine H_block ?_)
    try any_goals ((refine H_loop (σ := Nat) (fun i => i ≤ w0.length ∧ ∀ j : Nat, j < i → tkB (orD w0 d m).T (ix w0 (j : Int)) = false) (fun i => [(1, .inl u1), (2, .inl u2), (3, .inl (.pointer (some ⟨g3, 0, none⟩))), (8, .inl (.int .i64 i))]) (fun _ => Sep q [lcD g3 (orD w0 d m)]) (fun i => w0.length - i) 0 ⟨Nat.zero_le _, fun j hj => absurd hj (Nat.not_lt_zero _)⟩ (fun a w' h => h.sub (by repeat (first | exact trivial | refine ⟨⟨_, rfl, fun _ _ _ h => h⟩, ?_⟩ | refine ⟨⟨_, rfl, fun v w _ h => (show v = _ from h).trans (congrArg (Value.int .i64) (by first | omega | (dsimp only; omega)))⟩, ?_⟩)) (fun w' h => h)) (fun i hi => ?_); obtain ⟨hi, hji⟩ := hi))
    try any_goals (refine H_seq ?_)
    try any_goals (first | (refine H_seq ?_; try refine H_reg ?_) | refine H_reg ?_)
    try any_goals (refine W_move (d := 19) (sq_stepper upC_sep) rfl rfl rfl ?_)
    try any_goals (first | refine W_moveR (d := 20) (sq_stepper upC_sep) (U := uS e pI w0) (fun w' h => UR.lift (Sep.ext h) hr1) rfl rfl rfl ?_ | refine W_move (d := 20) (sq_stepper upC_sep) rfl rfl rfl ?_)
    try any_goals (first | refine W_len (d := 21) (sq_stepper upC_sep) (by kernel_rfl) rfl rfl rfl ?_ | refine W_lenStr (d := 21) (sq_stepper upC_sep) (by kernel_rfl) rfl rfl rfl ?_)
    try any_goals (first | refine W_cmp (d := 22) (sq_stepper upC_sep) rfl rfl rfl rfl rfl ?_ | refine W_strcmp (d := 22) (sq_stepper upC_sep) rfl rfl rfl rfl rfl ?_)
    try any_goals (first | (refine Sq_nil ?_; try refine G_then ?_) | refine G_then ?_)
    try any_goals (first | refine H_condT rfl ?_ | refine H_condF rfl (Wt.un 2 ?_) | (refine H_cond _ rfl (fun hq => ?_) (fun hq => Wt.un 2 ?_) <;> (try simp only [hqs, reduceCtorEq] at hq)))
    try any_goals (refine H_skip ?_)
    try any_goals (refine G_hold 3 ?_)
    try any_goals (refine Wt.out 2 ?_)
    try any_goals (refine H_exit ?_)
    repeat (any_goals (first | refine G_exit_then ?_ | refine G_exit_here ?_ | refine G_exit_far rfl ?_))
    try any_goals (refine G_hold 4 ?_)
    try any_goals (refine Wt.out 3 ?_)
    try any_goals (refine G_then ?_)
    try any_goals (refine H_seq ?_)
    try any_goals (refine H_block ?_)
    try any_goals (refine H_seq ?_)
    try any_goals (refine H_pinR 6 (fun wr hS => ?_); have hP3 := hS.uPb (m := 0) rfl)
    try any_goals (refine H_drawZ [0, 1, 2, 3, 4, 5, 6, 7, 8, 9] [10, 11] 8 (by kernel_rfl) (by kernel_rfl) rfl rfl pure_extract (by first | exact upC_sep | exact upC_ext _) (fun _ _ _ _ _ h => h) ?_)
    try any_goals (refine W_loadUP (d := 26) wkH_stepper (fun w' h => UR.lift h hP3) (by kernel_rfl) rfl rfl rfl ?_)
    try any_goals (first | refine W_moveR (d := 27) wkH_stepper (U := uS e pI w0) (fun w' h => UR.lift (Sep.ext h) hr1) rfl rfl rfl ?_ | refine W_move (d := 27) wkH_stepper rfl rfl rfl ?_)
    try any_goals (refine W_move (d := 28) wkH_stepper rfl rfl rfl ?_)
    try any_goals (refine W_indexR (d := 29) wkH_stepper (xs := w0) (fun w' h => UR.lift (hS.ext.trans h) hr1) (by kernel_rfl) rfl rfl rfl rfl ⟨by omega, by omega⟩ ?_)
    try any_goals (refine W_loadI (d := 30) wkH_stepper (by kernel_rfl) rfl rfl rfl ?_)
    try any_goals (refine W_ct (d := 31) wkH_stepper (ct_l15Take _ _ hI.v) rfl rfl rfl (by kernel_rfl) ?_)
    try any_goals (refine W_move (d := 25) wkH_stepper rfl rfl rfl ?_)
    try any_goals (refine W_extract (d := 32) wkH_stepper rfl rfl rfl rfl ?_)
    try any_goals (refine W_extract (d := 33) wkH_stepper rfl rfl rfl rfl ?_)
    try any_goals (refine W_allocN (d := 9) wkH_stepper (n := 2) (s := wr.heap.size) (nwD 9) (by kernel_rfl) (fun w' h => h.size) ⟨rfl, by kernel_rfl, rfl⟩ rfl rfl ?_)
    try any_goals (refine WkH_nil ?_)
    try any_goals (refine Sq_openW 9 hS rfl (fun g9 => ?_); refine Sq_weaken (C' := Sep q [lcD g9 ⟨[], []⟩, lcD g3 (orD w0 d m)]) (fun w' h => Sep.asL (m := 0) h rfl dep_nil) ?_)
    try any_goals (refine Sq_storeL 0 (tkD (orD w0 d m) (ix w0 (i : Int))) rfl ⟨av_dep, av_dep, trivial⟩ (by kernel_rfl) rfl rfl ?_; refine Sq_weaken (C' := Sep q [lcD g9 (tkD (orD w0 d m) (ix w0 (i : Int))), lcD g3 (orD w0 d m)]) (fun w' h => h) ?_)
    try any_goals (refine W_assign (d := 10) (sq_stepper upC_sep) rfl rfl rfl ?_)
    try any_goals (first | (refine Sq_nil ?_; try refine G_then ?_) | refine G_then ?_)
    try any_goals (refine H_seq ?_)
    try any_goals (first | (refine H_seq ?_; try refine H_reg ?_) | refine H_reg ?_)
    try any_goals (refine W_move (d := 34) (sq_stepper upC_sep) rfl rfl rfl ?_)
    try any_goals (refine W_not (d := 35) (sq_stepper upC_sep) rfl rfl rfl ?_)
    try any_goals (first | (refine Sq_nil ?_; try refine G_then ?_) | refine G_then ?_)
    try any_goals (first | refine H_condT rfl ?_ | refine H_condF rfl (Wt.un 5 ?_) | (refine H_cond _ rfl (fun hq => ?_) (fun hq => Wt.un 5 ?_) <;> (try simp only [hqs, reduceCtorEq] at hq)))
    try any_goals (refine H_exit ?_)
    repeat (any_goals (first | refine G_exit_then ?_ | refine G_exit_here ?_ | refine G_exit_far rfl ?_))
    try any_goals (refine G_hold 7 ?_)
    try any_goals (refine Wt.out 5 ?_)
    try any_goals (refine H_skip ?_)
    try any_goals (refine Wt.out 6 ?_)
    try any_goals (refine G_then ?_)
    try any_goals (refine H_seq ?_)
    try any_goals (refine H_seq ?_)
    try any_goals (have hfe := orF_at (w := w0) (d := orD w0 d m) (i := i) (by omega) (by assumption) hji; have hmlt : m < w0.length := (by rcases Nat.lt_or_ge m w0.length with h | h; exact h; exfalso; omega); have eD : orD w0 d (m + 1) = tkD (orD w0 d m) (ix w0 (i : Int)) := (by rw [orD, hfe]); have eX : orX w0 d (m + 1) = orX w0 d m ++ [ix w0 (i : Int)] := (by rw [orX, hfe]); have ih2 := ih (m + 1) (by omega) (by omega) (fun j hj => by rcases Nat.lt_or_ge j m with h | h; exact hfj j h; (have e9 : j = m := (by omega)); subst e9; rw [hfe]; omega))
    try any_goals (rw [eD, eX] at ih2)
    try any_goals (refine H_pinR 8 (fun wr hS => ?_); obtain ⟨cs9, hb9, hf9⟩ := hS.oneC (m := 0) rfl; have hz9 : cs9.length = 2 := bDep.len _ _ _ hf9)
    try any_goals (refine H_drawB [2, 3, 4, 5, 6, 7, 8] [0, 1] [10, 11, 12, 13, 14] [15] 9 46 (Ext wr) (fun v46 : Value => v46) (fun v46 => Sep wr [.sl Int 3 pI (orX w0 d m ++ [ix w0 (i : Int)]) v46]) (by kernel_rfl) (by kernel_rfl) (by kernel_rfl) rfl rfl (upC_ext _) (fun _ => upC_sep) (fun w h => h) (fun y w h => Sep.ext h) ?_)
    try any_goals (refine W_moveR (d := 39) wb_stepper (U := uS (some 3) pI (orX w0 d m)) (fun w' h => UR.lift (hS.ext.trans h) hr2) rfl rfl rfl ?_)
    try any_goals (refine W_ctG (d := 40) wb_stepper (s := wr.heap.size) (cg_l1Own (orX w0 d m) (by omega)) (fun w' h => h.size) rfl rfl rfl (by kernel_rfl) ?_)
    try any_goals (first | refine W_moveR (d := 41) wb_stepper (U := uS e pI w0) (fun w' h => UR.lift (Sep.ext h) hr1) rfl rfl rfl ?_ | refine W_move (d := 41) wb_stepper rfl rfl rfl ?_)
    try any_goals (refine W_move (d := 42) wb_stepper rfl rfl rfl ?_)
    try any_goals (refine W_indexR (d := 43) wb_stepper (xs := w0) (fun w' h => UR.lift (hS.ext.trans h) hr1) (by kernel_rfl) rfl rfl rfl rfl ⟨by omega, by omega⟩ ?_)
    try any_goals (refine W_loadI (d := 44) wb_stepper (by kernel_rfl) rfl rfl rfl ?_)
    try any_goals (refine W_buildS (d := 45) wb_stepper [(Operand.tmp 44)] pI [_] (e := 3) (by kernel_rfl) (by kernel_rfl) rfl rfl (by kernel_rfl) rfl rfl rfl ⟨elem_I, trivial⟩ ?_)
    try any_goals (refine WB_nil (WrOb_appO (xs := orX w0 d m) (zs := [ix w0 (i : Int)]) (hfl := flat_I) (s1 := 40) (s2 := 45) rfl (by kernel_rfl) trivial (by kernel_rfl) rfl rfl rfl ⟨by simp only [List.length_cons, List.length_nil]; omega, by simp⟩) ?_)
    try any_goals (refine A_one rfl ?_)
    try any_goals (refine W_loadCs (d := 37) wl1_stepper (b := g9) (cs := cs9) (fun w' h j u hj => (Blk.ext hb9 h).cell hj) (by kernel_rfl) rfl rfl rfl hz9 ?_)
    try any_goals (refine A_end ?_)
    try any_goals (refine A_one rfl ?_)
    try any_goals (first | refine W_moveR (d := 38) wl1_stepper (U := uS e pI w0) (fun w' h => UR.lift (Sep.ext h) hr1) rfl rfl rfl ?_ | refine W_move (d := 38) wl1_stepper rfl rfl rfl ?_)
    try any_goals (refine A_end ?_)
    try any_goals (refine A_nil (fun v46 => ?_))
    try any_goals (refine W_ctC (d := 47) wkH_stepper ih2 (ps0 := [.inl (.agg cs9.toArray), .inl u1, .inl v46]) (fun vs w' hS2 hk => by match vs, hk with | [a, b, c], ⟨k1, k2, k3, _⟩ => (obtain rfl : a = _ := k1; obtain rfl : b = _ := k2; obtain rfl : c = _ := k3; exact ⟨⟨_, rfl, bDep.up _ _ _ _ (Sep.ext hS2) hf9⟩, UR.lift (hS.ext.trans (Sep.ext hS2)) hr1, Sep.isS (m := 0) hS2 rfl, trivial⟩)) rfl rfl rfl (by kernel_rfl) ?_)
    try any_goals (refine W_move (d := 36) wkH_stepper rfl rfl rfl ?_)
    try any_goals (refine W_extract (d := 48) wkH_stepper rfl rfl rfl rfl ?_)
    try any_goals (refine W_extract (d := 49) wkH_stepper rfl rfl rfl rfl ?_)
    try any_goals (refine W_assign (d := 11) wkH_stepper rfl rfl rfl ?_)
    try any_goals (refine WkH_nil ?_)
    try any_goals (refine W_assign (d := 12) (sq_stepper upC_sep) rfl rfl rfl ?_)
    try any_goals (first | (refine Sq_nil ?_; try refine G_then ?_) | refine G_then ?_)
    try any_goals (refine H_seq ?_)
    try any_goals (refine H_weakenC (C' := Sep q [.sl Int 3 pI (orX w0 d m ++ [ix w0 (i : Int)]) v46, lcD g9 (tkD (orD w0 d m) (ix w0 (i : Int))), lcD g3 (orD w0 d m)]) (fun w' h => hS.joinR h) ?_)
    try any_goals (refine H_reg ?_)
    try any_goals (refine W_move (d := 50) (sq_stepper upC_sep) rfl rfl rfl ?_)
    try any_goals (first | (refine Sq_nil ?_; try refine G_then ?_) | refine G_then ?_)
    try any_goals (first | refine H_condT rfl ?_ | refine H_condF rfl (Wt.un 8 ?_) | (refine H_cond _ rfl (fun hq => ?_) (fun hq => Wt.un 8 ?_) <;> (try simp only [hqs, reduceCtorEq] at hq)))
    try any_goals (first | (refine H_seq ?_; try refine H_reg ?_) | refine H_reg ?_)
    try any_goals (refine W_move (d := 51) (sq_stepper upC_sep) rfl rfl rfl ?_)
    try any_goals (refine W_assign (d := 6) (sq_stepper upC_sep) rfl rfl rfl ?_)
    try any_goals (refine W_assign (d := 7) (sq_stepper upC_sep) rfl rfl rfl ?_)
    try any_goals (first | (refine Sq_nil ?_; try refine G_then ?_) | refine G_then ?_)
    try any_goals (refine H_ret ?_)
    repeat (any_goals (first | refine G_ret_then ?_ | refine G_ret_block ?_))
    try any_goals (refine G_hold 9 ?_)
    try any_goals (refine Wt.out 8 ?_)
    try any_goals (refine H_skip ?_)
    try any_goals (refine Wt.out 9 ?_)
    try any_goals (refine G_then ?_)
    try any_goals (first | (refine H_seq ?_; try refine H_reg ?_) | refine H_reg ?_)
    try any_goals (refine W_buildS (d := 52) (sq_stepper upC_sep) [] pI [] (e := 3) (by kernel_rfl) (by kernel_rfl) rfl rfl (by kernel_rfl) rfl rfl rfl trivial ?_)
    try any_goals (refine W_assign (d := 6) (sq_stepper upC_sep) rfl rfl rfl ?_)
    try any_goals (refine W_assign (d := 7) (sq_stepper upC_sep) rfl rfl rfl ?_)
    try any_goals (first | (refine Sq_nil ?_; try refine G_then ?_) | refine G_then ?_)
    try any_goals (refine H_ret ?_)
    repeat (any_goals (first | refine G_ret_then ?_ | refine G_ret_block ?_))
    try any_goals (refine Wt.out 7 ?_)
    repeat (any_goals (first | refine G_exit_then ?_ | refine G_exit_here ?_ | refine G_exit_far rfl ?_ | refine G_normal_block ?_))
    try any_goals (refine G_then ?_)
    try any_goals (refine H_reg ?_)
    try any_goals (refine W_move (d := 23) (sq_stepper upC_sep) rfl rfl rfl ?_)
    try any_goals (refine W_ar (d := 24) (sq_stepper upC_sep) rfl rfl rfl rfl rfl (by first | omega | (dsimp only; omega)) ?_)
    try any_goals (refine W_assign (d := 8) (sq_stepper upC_sep) rfl rfl rfl ?_)
    try any_goals (refine Sq_nil ?_)
    try any_goals (refine G_again (i + 1) ⟨by omega, fun j hj => ?_⟩ (by omega) (by repeat (first | exact trivial | refine ⟨⟨_, rfl, fun _ _ _ h => h⟩, ?_⟩ | refine ⟨⟨_, rfl, fun v w _ h => (show v = _ from h).trans (congrArg (Value.int .i64) (by first | omega | (dsimp only; omega)))⟩, ?_⟩)) (fun w' h => Sep.drop h))
    try any_goals (refine Wt.out 4 ?_)
    repeat (any_goals (first | refine G_exit_then ?_ | refine G_exit_here ?_ | refine G_exit_far rfl ?_ | refine G_normal_block ?_))
    try any_goals (refine G_then ?_)
    try any_goals (first | (refine H_seq ?_; try refine H_reg ?_) | refine H_reg ?_)
    try any_goals (refine W_buildS (d := 53) (sq_stepper upC_sep) [] pI [] (e := 3) (by kernel_rfl) (by kernel_rfl) rfl rfl (by kernel_rfl) rfl rfl rfl trivial ?_)
    try any_goals (refine W_assign (d := 6) (sq_stepper upC_sep) rfl rfl rfl ?_)
    try any_goals (refine W_assign (d := 7) (sq_stepper upC_sep) rfl rfl rfl ?_)
    try any_goals (first | (refine Sq_nil ?_; try refine G_then ?_) | refine G_then ?_)
    try any_goals (refine H_ret ?_)
    repeat (any_goals (first | refine G_ret_then ?_ | refine G_ret_block ?_))
    all_goals (try dsimp only)
    all_goals first
      | (have e0 : m = w0.length := by omega
         have ho : orO w0 d = true := orO_y (by rw [← e0]; exact hfj)
         exact R2 rfl (fun _ h => hE.trans h.ext) rfl rfl (fun v w' hc hv => by rw [orR_y ho, ← e0]; exact hv) (fun v w' _ hv => by rw [ho]; exact hv))
      | (rcases Nat.lt_or_ge j i with h1 | h1
         · exact hji j h1
         · have e : j = i := by omega
           subst e
           assumption)
      | (have ho : orO w0 d = true := by assumption
         exact R2 rfl (fun _ h => hE.trans h.ext) rfl rfl (fun v w' hc hv => hv) (fun v w' _ hv => by rw [ho]; exact hv))
      | (have ho : orO w0 d = false := by assumption
         exact R2 rfl (fun _ h => hE.trans h.ext) rfl rfl (fun v w' hc hv => by rw [orR_n ho]; exact hv) (fun v w' _ hv => by rw [ho]; exact hv))
      | (have hno := orF_no (w := w0) (d := orD w0 d m) (fun j hj => hji j (by omega))
         have ho := orO_n (w := w0) (d := d) (m := m) (by omega) (by omega)
         exact R2 rfl (fun _ h => hE.trans h.ext) rfl rfl (fun v w' hc hv => by rw [orR_n ho]; exact hv) (fun v w' _ hv => by rw [ho]; exact hv))
      | trace_state
end Go.Proofs.Ytbipnenkgkebjaa

/- Boarding: the program's side. -/
import Derived.Test.YtfnihicngoaejaaBrdV
import Derived.Test.YtfnihicngoaejaaServI
namespace Go.Proofs.Ytfnihicngoaejaa
set_option linter.unusedSimpArgs false
set_option linter.unusedVariables false
open Go.RowKit Go.ChangeShapes Go.WideShapes Go.ChangeAt Go.Deep
def pBg : Phi Bg := pCat Bg.f pI (pCat Bg.s pSv (pCat Bg.n pI pNil))
abbrev iC (g7 : Nat) (vB : Value) (os vs : List Value) (vL vW : Value) (ls : List (List Int)) (W : List Int) (bs : List Bg) : List Osl :=
  .sl Bg 103 pBg bs vB :: .sl Value 51 pV os vL :: .raw 100 g7 [vB, vL, vW] :: .sl Int 3 pI W vW :: rowsZ ls vs
theorem iC_av {g7 : Nat} {vB : Value} {os vs : List Value} {vL vW : Value} {ls : List (List Int)} {W : List Int} {bs : List Bg} {t : TypeId} : avAll (iC g7 vB os vs vL vW ls W bs) t := ⟨⟨trivial, ⟨trivial, trivial, trivial, trivial, trivial⟩, trivial, trivial⟩, trivial, trivial, trivial, avAll_rows⟩
theorem iC_row {o1 o2 o3 : Osl} {g7 : Nat} {vB : Value} {os vs : List Value} {vL vW : Value} {ls : List (List Int)} {W : List Int} {bs : List Bg} {j : Nat} (h1 : ls.length = vs.length) (h2 : j < ls.length) : (o1 :: o2 :: o3 :: iC g7 vB os vs vL vW ls W bs)[j + 7]? = some (.sl Int 3 pI (ix ls j) (ix vs j)) := rowsZ_get h1 h2
theorem iC_rowS {o1 o2 o3 : Osl} {g7 : Nat} {vB : Value} {os vs : List Value} {vL vW : Value} {ls : List (List Int)} {l : List Int} {W : List Int} {bs : List Bg} {j : Nat} (h1 : ls.length = vs.length) (h2 : j < ls.length) : (o1 :: o2 :: o3 :: iC g7 vB os vs vL vW (ls.set j l) W bs)[j + 7]? = some (.sl Int 3 pI l (ix vs j)) := by
  have := iC_row (o1 := o1) (o2 := o2) (o3 := o3) (g7 := g7) (vB := vB) (os := os) (vs := vs) (vL := vL) (vW := vW) (ls := ls.set j l) (W := W) (bs := bs) (j := j) (by rw [List.length_set]; exact h1) (by rw [List.length_set]; exact h2)
  rw [ix_set_same h2] at this
  exact this
theorem iC_setS {o1 o2 o3 : Osl} {g7 : Nat} {vB : Value} {os vs : List Value} {vL vW : Value} {ls : List (List Int)} {W : List Int} {bs : List Bg} {j : Nat} {l l' : List Int} (h1 : ls.length = vs.length) (h2 : j < ls.length) : (o1 :: o2 :: o3 :: iC g7 vB os vs vL vW (ls.set j l) W bs).set (j + 7) (.sl Int 3 pI l' (ix vs j)) = o1 :: o2 :: o3 :: iC g7 vB os vs vL vW (ls.set j l') W bs := by
  show o1 :: o2 :: o3 :: _ :: _ :: _ :: _ :: (rowsZ (ls.set j l) vs).set j _ = _
  rw [rowsZ_set (by rw [List.length_set]; exact h1) (by rw [List.length_set]; exact h2), List.set_set]
theorem set_fill {α : Type} {xs : List α} {d z : α} {n i : Nat} (h : xs.length = i) (hi : i < n) : (xs ++ List.replicate (n - i) d).set i z = (xs ++ [z]) ++ List.replicate (n - (i + 1)) d := by
  subst h
  rw [show n - xs.length = (n - (xs.length + 1)) + 1 by omega, List.replicate_succ, List.set_append_right _ _ (Nat.le_refl _), Nat.sub_self, List.set_cons_zero]
  simp
def nwV (slot n : Nat) : Nw := ⟨slot, 51, List.replicate n (.slice none 0 0), fun g => .slice (some ⟨g, 0, none⟩) n n, fun g => .sl Value 51 pV (List.replicate n (.slice none 0 0)) (.slice (some ⟨g, 0, none⟩) n n)⟩
theorem nwV_ok {slot n : Nat} (hn : n ≤ maxLen) : (nwV slot n).Ok := ⟨fun g => rfl, fun g w => ⟨n, rfl, ⟨_, by rw [List.length_replicate]; rfl, .inl rfl⟩, by rw [List.length_replicate]; exact Nat.le_refl _, hn, by show (List.replicate n _).length = n * 1; rw [List.length_replicate, Nat.mul_one], (fun h => by cases h), fun j z hz => by
  have hj : j < n := by have := (List.getElem?_eq_some_iff.1 hz).1; rwa [List.length_replicate] at this
  rw [List.getElem?_replicate, if_pos hj] at hz
  injection hz with hz
  subst hz
  show ((List.replicate n (Value.slice none 0 0)).drop (j * 1)).take 1 = [.slice none 0 0] ∧ _
  rw [Nat.mul_one, List.drop_replicate, List.take_replicate, show min 1 (n - j) = 1 by omega]
  exact ⟨rfl, rfl⟩⟩⟩
theorem cells_V {n : Nat} : (madeCells (zeroOf Try.prog 51) (n * 1)).toList = List.replicate n (.slice none 0 0) := by
  have hz : zeroOf Try.prog 51 = #[.slice none 0 0] := by kernel_rfl
  rw [hz, Nat.mul_one]
  apply List.ext_getElem?
  intro i
  simp only [madeCells, Array.toList_map, Array.toList_range, List.getElem?_map]
  by_cases hi : i < n
  · rw [List.getElem?_range hi, List.getElem?_replicate, if_pos hi]
    simp [Nat.mod_one]
  · rw [List.getElem?_eq_none (by simp; omega), List.getElem?_eq_none (by simp; omega)]
    rfl
theorem maxW_bd {l : List Int} {a c : Int} : ∀ {k : Nat}, (∀ j : Nat, j ≤ k → 0 ≤ ix l (a + j) ∧ ix l (a + j) ≤ c) → 0 ≤ maxW l a k ∧ maxW l a k ≤ c
  | 0, h => by have := h 0 (Nat.le_refl _); rw [maxW]; rw [show a + ((0 : Nat) : Int) = a by omega] at this; exact this
  | k + 1, h => by
    have h1 := maxW_bd (l := l) (a := a) (c := c) (k := k) fun j hj => h j (by omega)
    have h2 := h (k + 1) (Nat.le_refl _)
    rw [maxW]
    omega
theorem bdIn_B {cap i : Int} {f : Flw} {ss : List Sv} {st : Bd} : ∀ {k : Nat}, (bdIn cap i f ss st k).B.length ≤ st.B.length + k
  | 0 => Nat.le_refl _
  | k + 1 => by
    have := bdIn_B (cap := cap) (i := i) (f := f) (ss := ss) (st := st) (k := k)
    rw [bdIn]
    show (if _ then _ else _ : List Bg).length ≤ _
    split
    · omega
    · rw [List.length_append]; simp only [List.length_cons, List.length_nil]; omega
theorem bdO_B {t : Tab} {fs : List Flw} {cap : Int} : ∀ {i : Nat}, (bdO t fs cap i).1.B.length ≤ i * t.T.length
  | 0 => by simp [bdO, bd0]
  | i + 1 => by
    have h1 := bdO_B (t := t) (fs := fs) (cap := cap) (i := i)
    have h2 := bdIn_B (cap := cap) (i := i) (f := ix fs i) (ss := svS t (ix fs i)) (st := bdP (bdO t fs cap i).1 (ix fs i).P) (k := (svS t (ix fs i)).length)
    have h3 := svS_len (t := t) (f := ix fs i)
    rw [bdO, Nat.succ_mul]
    have h4 : (bdP (bdO t fs cap i).1 (ix fs i).P).B = (bdO t fs cap i).1.B := rfl
    rw [h4] at h2
    show (bdIn _ _ _ _ _ _).B.length ≤ _
    omega
theorem bdStep_zero {cap i : Int} {f : Flw} {st : Bd} {s : Sv} (h : bdN cap st s = 0) (hp : 0 ≤ s.p) (ht : 0 ≤ s.t) : (bdStep cap i f st s).L = st.L ∧ (bdStep cap i f st s).P = st.P ∧ (bdStep cap i f st s).B = st.B := by
  unfold bdStep
  rw [h]
  refine ⟨?_, Int.sub_zero _, (by dsimp only; exact if_pos rfl)⟩
  show st.L.set s.t.toNat (addW (ix st.L s.t) s.p 0 (s.q - s.p).toNat) = st.L
  rw [addW_zero hp]
  have := set_same_ix (l := st.L) (j := s.t.toNat)
  rwa [show ((s.t.toNat : Nat) : Int) = s.t by omega] at this
abbrev iX (g6 g7 : Nat) (vB : Value) (vs : List Value) (vL vW : Value) (t : Tab) (fs : List Flw) (cap : Int) : List Osl :=
  .raw 100 g6 [vB, vL, vW] :: iC g7 vB vs vs vL vW (bdO t fs cap fs.length).1.L (bdO t fs cap fs.length).2 (bdO t fs cap fs.length).1.B
structure IbY where
  g6 : Nat
  g7 : Nat
  vB : Value
  vs : List Value
  vL : Value
  vW : Value
set_option maxHeartbeats 4000000 in
theorem cx_iBoard {e : Option TypeId} (t : Tab) (fs : List Flw) (cap : Int) (hv : tabB t = true) (hf : flowsB t fs = true) (hc : 0 ≤ cap ∧ cap ≤ 1000) (w : World) : CTX Try.prog 66 (fun w1 => w1 = w) [.inr (uA bTab t), .inr (uS e pFlw fs), .inl (.int .i64 cap)]
    (fun y w' => Sep w (iX y.g6 y.g7 y.vB y.vs y.vL y.vW t fs cap) w' ∧ y.vs.length = t.T.length) (fun y : IbY => .inl (.agg #[y.vB, y.vL, y.vW])) := by
  have h12 := (tabB_k hv).2.1
  have hfl := flowsB_len hf
  have hns := (netB_len (tabB_k hv).1).1
  refine CTX_of Try.func66 rfl rfl rfl ?_
  refine H_weakenC (C' := Ext w) (fun w1 h => by subst h; exact Ext.refl _) ?_
  have hC := upC_ext w
  try any_goals ((refine H_seq ?_; try refine H_reg ?_))
  try any_goals (refine W_boxA (d := 3) (sq_stepper hC) rfl rfl rfl ?_)
  try any_goals (refine W_allocN (d := 6) (sq_stepper hC) (s := w.heap.size) (nwB 6 100 [.slice none 0 0, .slice none 0 0, .slice none 0 0]) (n := 3) (by kernel_rfl) (fun w' h => h.size) ⟨rfl, by kernel_rfl, rfl⟩ rfl rfl ?_)
  try any_goals ((refine Sq_nil ?_; try refine G_then ?_))
  try any_goals (refine H_seq ?_)
  try any_goals (have hE : Ext _ _ := Ext.refl w)
  try any_goals (refine H_open 3 rfl (fun q u3 hw hr3 => ?_); have hE := hE.trans hw)
  try any_goals (refine H_open 1 rfl (fun q u1 hw hr1 => ?_); have hE := hE.trans hw; have hr3 := UR.lift hw hr3)
  try any_goals (refine H_open 6 rfl (fun q u6 hw hr6 => ?_); have hE := hE.trans hw; have hr3 := UR.lift hw hr3; have hr1 := UR.lift hw hr1)
  try any_goals (refine H_weakenC (C' := Sep q []) (fun w' h => sep_start h) ?_; have hC : UpC (Sep q []) := upC_sep)
  try any_goals (obtain ⟨g6, rfl, hg6, hb6⟩ := hr6; obtain ⟨b, o, vT, rfl, hcT, hiT⟩ := tabP_open hr3)
  try any_goals (refine H_pin (fun wr hS => ?_))
  try any_goals (refine H_drawG [] [0, 1, 2, 3, 4, 5, 6, 7, 8] [9] (by kernel_rfl) (by kernel_rfl) (upC_ext _) (fun _ _ _ _ _ h => h) ?_)
  try any_goals (refine L_nil ?_)
  try any_goals (refine W_fieldC (d := 18) wkG_stepper (off := 2) (by kernel_rfl) rfl rfl rfl ?_)
  try any_goals (refine W_loadO (d := 19) wkG_stepper (by kernel_rfl) rfl rfl rfl (fun w' h => ((Sep.ext hS).trans h).cell hcT) ?_)
  try any_goals (refine W_lenR (d := 20) wkG_stepper (xs := t.T) (fun w' h => IsS.up ((Sep.ext hS).trans h) hiT) (by kernel_rfl) rfl rfl rfl ?_)
  try any_goals (refine G_make (k := 1) (nwV 21 t.T.length) (by kernel_rfl) rfl rfl rfl ⟨by omega, by omega⟩ ⟨rfl, cells_V.symm, rfl⟩ ?_)
  try any_goals (refine W_move (d := 22) wkG_stepper rfl rfl rfl ?_)
  try any_goals (refine W_lenR (d := 23) wkG_stepper (xs := fs) (fun w' h => IsS.up ((Sep.ext hS).trans h) hr1) (by kernel_rfl) rfl rfl rfl ?_)
  try any_goals (refine G_make (k := 1) (nwI 24 fs.length) (by kernel_rfl) rfl rfl rfl ⟨by omega, by omega⟩ ⟨rfl, cells_I.symm, rfl⟩ ?_)
  try any_goals (refine G_bagg rfl (by intro x hx; simp at hx; rcases hx with rfl | rfl <;> simp) (fun a w' _ hk => by obtain ⟨g1, e1, _⟩ := hk (1, .tmp 21) (by simp) _ rfl; obtain ⟨g2, e2, _⟩ := hk (2, .tmp 24) (by simp) _ rfl; refine ⟨#[.slice none 0 0, .slice (some ⟨g1, 0, none⟩) t.T.length t.T.length, .slice (some ⟨g2, 0, none⟩) fs.length fs.length], ?_⟩; simp only [List.map_cons, List.map_nil]; rw [e1, e2]; kernel_rfl) ?_)
  try any_goals (refine G_alloc (n := 3) (nwB 7 100 [.slice none 0 0, .slice none 0 0, .slice none 0 0]) (by kernel_rfl) rfl ⟨rfl, by kernel_rfl, rfl⟩ ?_)
  try any_goals (refine WkG_nil ?_)
  try any_goals (refine SqG_open [nwV 21 t.T.length, nwB 7 100 [.slice none 0 0, .slice none 0 0, .slice none 0 0], nwI 24 fs.length] hS (by intro n hn; simp at hn; rcases hn with rfl | rfl | rfl; exact nwV_ok (by simp only [maxLen]; omega); exact nwB_ok; exact nwI_ok (by simp only [maxLen]; omega)) (by intro n hn; simp at hn; rcases hn with rfl | rfl | rfl <;> exact ⟨rfl, by simp [nwB, nwI, nwV]⟩) (by show ([21, 7, 24] : List Nat).Nodup; decide) (fun gs hl => ?_); obtain ⟨g21, g7, g24, rfl⟩ := len_three hl; refine SqG_know 25 (.agg #[.slice none 0 0, (.slice (some ⟨g21, 0, none⟩) t.T.length t.T.length), (.slice (some ⟨g24, 0, none⟩) fs.length fs.length)]) (fun a w' hst hF => by obtain ⟨cs, h1, h2⟩ := hF _ (List.Mem.head _); have e21 : a.eval (.tmp 21) = (.slice (some ⟨g21, 0, none⟩) t.T.length t.T.length) := kn_val (s := .tmp 21) hst rfl; have e24 : a.eval (.tmp 24) = (.slice (some ⟨g24, 0, none⟩) fs.length fs.length) := kn_val (s := .tmp 24) hst rfl; have h1 : (Try.prog).built 100 [(1, a.eval (.tmp 21)), (2, a.eval (.tmp 24))] = some cs := h1; rw [e21, e24] at h1; have h3 : (Try.prog).built 100 [(1, (.slice (some ⟨g21, 0, none⟩) t.T.length t.T.length)), (2, (.slice (some ⟨g24, 0, none⟩) fs.length fs.length))] = some #[.slice none 0 0, (.slice (some ⟨g21, 0, none⟩) t.T.length t.T.length), (.slice (some ⟨g24, 0, none⟩) fs.length fs.length)] := (by kernel_rfl); rw [h3] at h1; rw [Option.some.inj h1]; exact h2) ?_; refine SqG_done ?_)
  try any_goals (refine Sq_storeRaw 1 (k := 3) (vs := [.slice none 0 0, (.slice (some ⟨g21, 0, none⟩) t.T.length t.T.length), (.slice (some ⟨g24, 0, none⟩) fs.length fs.length)]) rfl (by repeat (first | exact trivial | refine ⟨?_, ?_⟩)) (by kernel_rfl) rfl rfl rfl (raw_ag (by intro x hx; simp at hx; rcases hx with rfl | rfl | rfl <;> rfl)) (by decide) ?_)
  try any_goals ((refine Sq_nil ?_; try refine G_then ?_))
  try any_goals (refine H_seq ?_)
  try any_goals ((refine H_seq ?_; try refine H_reg ?_))
  try any_goals (refine W_fieldC (d := 26) (sq_stepper upC_sep) (off := 2) (by kernel_rfl) rfl rfl rfl ?_)
  try any_goals (refine W_loadO (d := 27) (sq_stepper upC_sep) (by kernel_rfl) rfl rfl rfl (fun w' h => (Sep.ext h).cell hcT) ?_)
  try any_goals (refine W_lenR (d := 28) (sq_stepper upC_sep) (xs := t.T) (fun w' h => IsS.up (Sep.ext h) hiT) (by kernel_rfl) rfl rfl rfl ?_)
  try any_goals (refine W_move (d := 29) (sq_stepper upC_sep) rfl rfl rfl ?_)
  try any_goals ((refine Sq_nil ?_; try refine G_then ?_))
  try any_goals (refine H_block ?_)
  try any_goals ((refine H_loop (σ := Nat × List Value) (fun x => x.1 ≤ t.T.length ∧ x.2.length = x.1) (fun x => [(1, .inl u1), (2, .inl (.int .i64 cap)), (3, .inl (.pointer (some ⟨b, o, none⟩))), (6, .inl (.pointer (some ⟨g6, 0, none⟩))), (7, .inl (.pointer (some ⟨g7, 0, none⟩))), (27, .inl vT), (28, .inl (.int .i64 t.T.length)), (29, .inl (.int .i64 x.1))]) (fun x => Sep q (iC g7 (.slice none 0 0) (x.2 ++ List.replicate (t.T.length - x.1) (.slice none 0 0)) x.2 (.slice (some ⟨g21, 0, none⟩) t.T.length t.T.length) (.slice (some ⟨g24, 0, none⟩) fs.length fs.length) (bdRow t x.1) (List.replicate fs.length 0) [])) (fun x => t.T.length - x.1) (0, []) ⟨Nat.zero_le _, rfl⟩ (fun a w' h => h.sub (by repeat (first | exact trivial | refine ⟨⟨_, rfl, fun _ _ _ h => h⟩, ?_⟩ | refine ⟨⟨_, rfl, fun v w _ h => (show v = _ from h).trans (congrArg (Value.int .i64) (by first | omega | (dsimp only; omega)))⟩, ?_⟩)) (fun w' h => Sep.nil _ _ _ h)) (fun x hi => ?_); obtain ⟨i, vs⟩ := x; simp only at hi; obtain ⟨hi, hvl⟩ := hi))
  try any_goals ((refine H_seq ?_; try refine H_reg ?_))
  try any_goals (refine W_cmp (d := 30) (sq_stepper upC_sep) rfl rfl rfl rfl rfl ?_)
  try any_goals ((refine Sq_nil ?_; try refine G_then ?_))
  try any_goals (refine H_seq ?_)
  try any_goals ((refine H_cond _ rfl (fun hq => ?_) (fun hq => Wt.un 0 ?_) <;> (try simp only [hqs, reduceCtorEq] at hq)))
  try any_goals (first | ((have htr := tabB_at hv (i := (i : Int)) (by omega) (by omega); have hz := tabB_lin hv (i := (i : Int)) (by omega) (by omega); have hzr := hz.r; have hzs := hz.s)) | skip)
  try any_goals (refine H_skip ?_)
  try any_goals (refine G_hold 1 ?_)
  try any_goals (refine Wt.out 0 ?_)
  try any_goals (refine H_exit ?_)
  repeat (any_goals (first | refine G_exit_then ?_ | refine G_exit_here ?_ | refine G_exit_far rfl ?_))
  try any_goals (refine G_hold 2 ?_)
  try any_goals (refine Wt.out 1 ?_)
  try any_goals (refine G_then ?_)
  try any_goals (refine H_seq ?_)
  try any_goals (refine H_block ?_)
  try any_goals ((refine H_seq ?_; try refine H_reg ?_))
  try any_goals (refine W_move (d := 31) (sq_stepper upC_sep) rfl rfl rfl ?_)
  try any_goals (refine W_indexR (d := 32) (sq_stepper upC_sep) (xs := t.T) (fun w' h => IsS.up (Sep.ext h) hiT) (by kernel_rfl) rfl rfl rfl rfl (by omega) ?_)
  try any_goals (refine W_loadA (d := 33) (sq_stepper upC_sep) (by kernel_rfl) rfl rfl rfl ?_)
  try any_goals (refine Sq_allocL (d := 9) pTrp default [.int .i64 0, .int .i64 0, .int .i64 0] (by kernel_rfl) (fun w => ⟨[_], _, rfl, rfl, [_], _, rfl, rfl, [_], _, rfl, rfl, rfl⟩) (by kernel_rfl) rfl (fun v9 => ?_))
  try any_goals (refine W_assign (d := 8) (sq_stepper upC_sep) rfl rfl rfl ?_)
  try any_goals ((refine Sq_storeO1 0 (n := 3) (ix t.T i) rfl ⟨⟨trivial, trivial, trivial, trivial⟩, iC_av⟩ rfl (by kernel_rfl) (Nat.le_refl _) rfl rfl hp_A ?_))
  try any_goals ((refine Sq_nil ?_; try refine G_then ?_))
  try any_goals (refine H_pinR 5 (fun wr5 hS5 => ?_); have hS5 : Sep q (.sl Trp 88 pTrp [ix t.T i] v9 :: iC g7 (.slice none 0 0) (vs ++ List.replicate (t.T.length - i) (.slice none 0 0)) vs (.slice (some ⟨g21, 0, none⟩) t.T.length t.T.length) (.slice (some ⟨g24, 0, none⟩) fs.length fs.length) (bdRow t i) (List.replicate fs.length 0) []) wr5 := hS5; have hRl : (trLin t i).R.length ≤ 5 := (by omega); have hRl2 : (ix t.N.L (ix t.T (i : Int)).L).R.length ≤ 5 := hRl)
  try any_goals (refine H_drawG [] [0, 1, 2, 3, 4, 5, 6, 7, 8] [9, 10] (by kernel_rfl) (by kernel_rfl) (upC_ext _) (fun _ _ _ _ _ h => h) ?_)
  try any_goals (refine L_nil ?_)
  try any_goals (refine W_fieldC (d := 34) wkG_stepper (off := 1) (by kernel_rfl) rfl rfl rfl ?_)
  try any_goals (refine W_loadO (d := 35) wkG_stepper (by kernel_rfl) rfl rfl rfl (fun w' h => (Blk.ext (hS5.raw (m := 3) rfl) h).cell rfl) ?_)
  try any_goals (refine W_move (d := 36) wkG_stepper rfl rfl rfl ?_)
  try any_goals (refine W_loadUP (d := 37) wkG_stepper (fun w' h => UR.lift (hS5.ext.trans h) hr3) (by kernel_rfl) rfl rfl rfl ?_)
  try any_goals (refine W_loadUP (d := 38) wkG_stepper (fun w' h => UR.lift h (hS5.uPl (m := 0) rfl)) (by kernel_rfl) rfl rfl rfl ?_)
  try any_goals (refine W_ct (d := 39) wkG_stepper (ct_lineOf _ (ix t.T i) (by omega)) rfl rfl rfl (by kernel_rfl) ?_)
  try any_goals (refine W_fieldVS (d := 40) wkG_stepper (Proj.tail _ _ (Proj.tail _ _ (Proj.head _ _ _))) (by kernel_rfl) rfl rfl rfl ?_)
  try any_goals (refine W_len (d := 41) wkG_stepper (by kernel_rfl) rfl rfl rfl ?_)
  try any_goals (refine G_make (k := 1) (nwI 42 (trLin t i).R.length) (by kernel_rfl) rfl rfl rfl ⟨by omega, by omega⟩ ⟨rfl, cells_I.symm, rfl⟩ ?_)
  try any_goals (refine WkG_nil ?_)
  try any_goals (refine SqG_open [nwI 42 (trLin t i).R.length] hS5 (by intro n hn; simp only [List.mem_singleton] at hn; subst hn; exact nwI_ok (by simp only [maxLen]; omega)) (by intro n hn; simp only [List.mem_singleton] at hn; subst hn; exact ⟨rfl, by simp [nwI]⟩) (by show ([42] : List Nat).Nodup; decide) (fun gs hl => ?_); obtain ⟨g42, rfl⟩ := len_one hl; refine SqG_done ?_)
  try any_goals (refine W_idxS1 (d := 43) 3 (sq_stepper upC_sep) rfl rfl (by kernel_rfl) rfl rfl rfl rfl ⟨by omega, by rw [List.length_append, List.length_replicate]; omega⟩ ?_)
  try any_goals (refine Sq_storeSV 3 rfl ⟨trivial, ⟨trivial, trivial, trivial, trivial⟩, iC_av⟩ ⟨by omega, by rw [List.length_append, List.length_replicate]; omega⟩ (by kernel_rfl) rfl rfl rfl ?_)
  try any_goals (refine Sq_nil ?_)
  repeat (any_goals (first | refine G_exit_then ?_ | refine G_exit_here ?_ | refine G_exit_far rfl ?_ | refine G_normal_block ?_))
  try any_goals (refine G_then ?_)
  try any_goals (refine H_reg ?_)
  try any_goals (refine W_ar (d := 44) (sq_stepper upC_sep) rfl rfl rfl rfl rfl (by first | omega | (dsimp only; omega)) ?_)
  try any_goals (refine W_move (d := 29) (sq_stepper upC_sep) rfl rfl rfl ?_)
  try any_goals (refine Sq_nil ?_)
  try any_goals (refine G_again (i + 1, vs ++ [.slice (some ⟨g42, 0, none⟩) (trLin t i).R.length (trLin t i).R.length]) ⟨by simp only; omega, by simp only [List.length_append, List.length_cons, List.length_nil]; omega⟩ (by simp only; omega) (by repeat (first | exact trivial | refine ⟨⟨_, rfl, fun _ _ _ h => h⟩, ?_⟩ | refine ⟨⟨_, rfl, fun v w _ h => (show v = _ from h).trans (congrArg (Value.int .i64) (by first | omega | (dsimp only; omega)))⟩, ?_⟩)) (fun w' h => ?_))
  try any_goals (refine Wt.out 2 ?_)
  repeat (any_goals (first | refine G_exit_then ?_ | refine G_exit_here ?_ | refine G_exit_far rfl ?_ | refine G_normal_block ?_))
  try any_goals (refine G_then ?_)
  try any_goals (refine H_seq ?_)
  try any_goals ((refine H_seq ?_; try refine H_reg ?_))
  try any_goals (refine W_move (d := 45) (sq_stepper upC_sep) rfl rfl rfl ?_)
  try any_goals (refine W_lenR (d := 46) (sq_stepper upC_sep) (xs := fs) (fun w' h => IsS.up (Sep.ext h) hr1) (by kernel_rfl) rfl rfl rfl ?_)
  try any_goals (refine W_move (d := 47) (sq_stepper upC_sep) rfl rfl rfl ?_)
  try any_goals ((refine Sq_nil ?_; try refine G_then ?_))
  try any_goals (refine H_block ?_)
  try any_goals ((obtain rfl : i = t.T.length := (by omega); refine H_loop (σ := Nat × Value) (fun x => x.1 ≤ fs.length) (fun x => [(1, .inl u1), (2, .inl (.int .i64 cap)), (3, .inl (.pointer (some ⟨b, o, none⟩))), (6, .inl (.pointer (some ⟨g6, 0, none⟩))), (7, .inl (.pointer (some ⟨g7, 0, none⟩))), (45, .inl u1), (46, .inl (.int .i64 fs.length)), (47, .inl (.int .i64 x.1))]) (fun x => Sep q (iC g7 x.2 vs vs (.slice (some ⟨g21, 0, none⟩) t.T.length t.T.length) (.slice (some ⟨g24, 0, none⟩) fs.length fs.length) (bdO t fs cap x.1).1.L ((bdO t fs cap x.1).2 ++ List.replicate (fs.length - x.1) 0) (bdO t fs cap x.1).1.B)) (fun x => fs.length - x.1) (0, .slice none 0 0) (Nat.zero_le _) (fun a w' h => h.sub (by repeat (first | exact trivial | refine ⟨⟨_, rfl, fun _ _ _ h => h⟩, ?_⟩ | refine ⟨⟨_, rfl, fun v w _ h => (show v = _ from h).trans (congrArg (Value.int .i64) (by first | omega | (dsimp only; omega)))⟩, ?_⟩)) (fun w' h => by (rw [Nat.sub_self, List.replicate_zero, List.append_nil] at h; exact h))) (fun x hi => ?_); obtain ⟨i, vB⟩ := x; simp only at hi))
  try any_goals ((refine H_seq ?_; try refine H_reg ?_))
  try any_goals (refine W_cmp (d := 48) (sq_stepper upC_sep) rfl rfl rfl rfl rfl ?_)
  try any_goals ((refine Sq_nil ?_; try refine G_then ?_))
  try any_goals (refine H_seq ?_)
  try any_goals ((refine H_cond _ rfl (fun hq => ?_) (fun hq => Wt.un 3 ?_) <;> (try simp only [hqs, reduceCtorEq] at hq)))
  try any_goals (first | ((have htr := tabB_at hv (i := (i : Int)) (by omega) (by omega); have hz := tabB_lin hv (i := (i : Int)) (by omega) (by omega); have hzr := hz.r; have hzs := hz.s)) | skip)
  try any_goals (refine H_skip ?_)
  try any_goals (refine G_hold 4 ?_)
  try any_goals (refine Wt.out 3 ?_)
  try any_goals (refine H_exit ?_)
  repeat (any_goals (first | refine G_exit_then ?_ | refine G_exit_here ?_ | refine G_exit_far rfl ?_))
  try any_goals (refine G_hold 5 ?_)
  try any_goals (refine Wt.out 4 ?_)
  try any_goals (refine G_then ?_)
  try any_goals (refine H_seq ?_)
  try any_goals (refine H_block ?_)
  try any_goals ((refine H_seq ?_; try refine H_reg ?_))
  try any_goals (refine W_move (d := 49) (sq_stepper upC_sep) rfl rfl rfl ?_)
  try any_goals (refine W_indexR (d := 50) (sq_stepper upC_sep) (xs := fs) (fun w' h => IsS.up (Sep.ext h) hr1) (by kernel_rfl) rfl rfl rfl rfl (by omega) ?_)
  try any_goals (refine W_loadA (d := 51) (sq_stepper upC_sep) (by kernel_rfl) rfl rfl rfl ?_)
  try any_goals (refine Sq_allocL (d := 11) pFlw default [.int .i64 0, .int .i64 0, .int .i64 0, .int .i64 0] (by kernel_rfl) (fun w => ⟨[_], _, rfl, rfl, [_], _, rfl, rfl, [_], _, rfl, rfl, [_], _, rfl, rfl, rfl⟩) (by kernel_rfl) rfl (fun v11 => ?_))
  try any_goals (refine W_assign (d := 10) (sq_stepper upC_sep) rfl rfl rfl ?_)
  try any_goals ((refine Sq_storeO1 0 (n := 4) (ix fs i) rfl ⟨⟨trivial, trivial, trivial, trivial, trivial⟩, iC_av⟩ rfl (by kernel_rfl) (Nat.le_refl _) rfl rfl hp_A ?_))
  try any_goals ((refine Sq_nil ?_; try refine G_then ?_))
  try any_goals ((refine H_seq ?_; try refine H_reg ?_))
  try any_goals (refine W_fieldS (d := 52) 0 (off := 3) (sq_stepper upC_sep) rfl (by first | omega | (simp; done) | (simp; omega)) (by kernel_rfl) rfl rfl rfl ?_)
  try any_goals (refine W_load1 (d := 53) 0 (sq_stepper upC_sep) (Θ := pI) (q := Flw.P) _ rfl (Proj.tail _ _ (Proj.tail _ _ (Proj.tail _ _ (Proj.head _ _ _)))) mk_I rfl (by kernel_rfl) rfl rfl rfl ?_)
  try any_goals (refine W_assign (d := 12) (sq_stepper upC_sep) rfl rfl rfl ?_)
  try any_goals ((refine Sq_nil ?_; try refine G_then ?_))
  try any_goals (refine H_seq ?_)
  try any_goals ((refine H_seq ?_; try refine H_reg ?_))
  try any_goals (refine W_loadUP (d := 54) (sq_stepper upC_sep) (fun w' h => UR.lift (Sep.ext h) hr3) (by kernel_rfl) rfl rfl rfl ?_)
  try any_goals (refine W_load1A (d := 55) 0 (sq_stepper upC_sep) rfl rfl (by kernel_rfl) rfl rfl rfl ?_)
  try any_goals ((refine Sq_callS (cg_services _ _ hv) rfl rfl (by kernel_rfl) (fun v56 => ?_)))
  try any_goals (refine W_lenS (d := 57) 0 (sq_stepper upC_sep) rfl (by kernel_rfl) rfl rfl rfl ?_)
  try any_goals (refine W_move (d := 58) (sq_stepper upC_sep) rfl rfl rfl ?_)
  try any_goals ((refine Sq_nil ?_; try refine G_then ?_))
  try any_goals (refine H_block ?_)
  try any_goals ((refine H_loop (σ := Nat × Value) (fun x => x.1 ≤ (svS t (ix fs i)).length) (fun x => [(1, .inl u1), (2, .inl (.int .i64 cap)), (3, .inl (.pointer (some ⟨b, o, none⟩))), (6, .inl (.pointer (some ⟨g6, 0, none⟩))), (7, .inl (.pointer (some ⟨g7, 0, none⟩))), (45, .inl u1), (46, .inl (.int .i64 fs.length)), (47, .inl (.int .i64 i)), (10, .inl (.int .i64 i)), (11, .inl (ptrAt v11 0 4 0)), (56, .inl v56), (57, .inl (.int .i64 (svS t (ix fs i)).length)), (58, .inl (.int .i64 x.1)), (12, .inl (.int .i64 (bdIn cap i (ix fs i) (svS t (ix fs i)) (bdP (bdO t fs cap i).1 (ix fs i).P) x.1).P))]) (fun x => Sep q (.sl Sv 93 pSv (svS t (ix fs i)) v56 :: .sl Flw 54 pFlw [ix fs i] v11 :: iC g7 x.2 vs vs (.slice (some ⟨g21, 0, none⟩) t.T.length t.T.length) (.slice (some ⟨g24, 0, none⟩) fs.length fs.length) (bdIn cap i (ix fs i) (svS t (ix fs i)) (bdP (bdO t fs cap i).1 (ix fs i).P) x.1).L ((bdO t fs cap i).2 ++ List.replicate (fs.length - i) 0) (bdIn cap i (ix fs i) (svS t (ix fs i)) (bdP (bdO t fs cap i).1 (ix fs i).P) x.1).B)) (fun x => (svS t (ix fs i)).length - x.1) (0, vB) (Nat.zero_le _) (fun a w' h => h.sub (by repeat (first | exact trivial | refine ⟨⟨_, rfl, fun _ _ _ h => h⟩, ?_⟩ | refine ⟨⟨_, rfl, fun v w _ h => (show v = _ from h).trans (congrArg (Value.int .i64) (by first | omega | (dsimp only; omega)))⟩, ?_⟩)) (fun w' h => h)) (fun x hk => ?_); obtain ⟨k, vB⟩ := x; simp only at hk; have hsl := svS_len (t := t) (f := ix fs i); have hBl := bdO_B (t := t) (fs := fs) (cap := cap) (i := i); have hBk := bdIn_B (cap := cap) (i := i) (f := ix fs i) (ss := (svS t (ix fs i))) (st := bdP (bdO t fs cap i).1 (ix fs i).P) (k := k); have hBk : (bdIn cap i (ix fs i) (svS t (ix fs i)) (bdP (bdO t fs cap i).1 (ix fs i).P) k).B.length ≤ (bdO t fs cap i).1.B.length + k := hBk; have hBm : i * t.T.length ≤ 12 * 12 := Nat.mul_le_mul (by omega) (by omega); have hok := bdO_mid hv hf hc.1 (i := i) (j := k) (by omega) hk; generalize hst : (bdIn cap i (ix fs i) (svS t (ix fs i)) (bdP (bdO t fs cap i).1 (ix fs i).P) k) = st at hok hBk ⊢; have hokp := hok.p; have hLl := hok.l; have hfi := flowsB_at hf (i := (i : Int)) (by omega) (by omega); rw [flowB_t] at hfi))
  try any_goals ((refine H_seq ?_; try refine H_reg ?_))
  try any_goals (refine W_cmp (d := 59) (sq_stepper upC_sep) rfl rfl rfl rfl rfl ?_)
  try any_goals ((refine Sq_nil ?_; try refine G_then ?_))
  try any_goals (refine H_seq ?_)
  try any_goals ((refine H_cond _ rfl (fun hq => ?_) (fun hq => Wt.un 6 ?_) <;> (try simp only [hqs, reduceCtorEq] at hq)))
  try any_goals (first | ((have htr := tabB_at hv (i := (i : Int)) (by omega) (by omega); have hz := tabB_lin hv (i := (i : Int)) (by omega) (by omega); have hzr := hz.r; have hzs := hz.s)) | skip)
  try any_goals (refine H_skip ?_)
  try any_goals (refine G_hold 7 ?_)
  try any_goals (refine Wt.out 6 ?_)
  try any_goals (refine H_exit ?_)
  repeat (any_goals (first | refine G_exit_then ?_ | refine G_exit_here ?_ | refine G_exit_far rfl ?_))
  try any_goals (refine G_hold 8 ?_)
  try any_goals (refine Wt.out 7 ?_)
  try any_goals (refine G_then ?_)
  try any_goals (refine H_seq ?_)
  try any_goals (refine H_block ?_)
  try any_goals (refine H_seq ?_)
  try any_goals ((obtain ⟨j, hj, hjok, hje⟩ := svS_at (t := t) (f := ix fs i) (k := (k : Int)) (by omega) (by omega); have hzj := tabB_lin hv (i := (j : Int)) (by omega) (by omega); have hzjs := hzj.s; have hs := svS_ok (f := ix fs i) hv (k := (k : Int)) (by omega) (by omega); rw [hje] at hs; have hN0 := bdN_bd hok hs hv; have hp : 0 ≤ (svP t (ix fs i) j) ∧ (svP t (ix fs i) j) < (svQ t (ix fs i) j) ∧ (svQ t (ix fs i) j) < (trLin t j).S.length := hs.hp; have hrow := hok.r j hj; have hxt : (svX t (ix fs i) j).t = (j : Int) := rfl; have hxp : (svX t (ix fs i) j).p = (svP t (ix fs i) j) := rfl; have hxq : (svX t (ix fs i) j).q = (svQ t (ix fs i) j) := rfl))
  try any_goals (refine H_reg ?_)
  try any_goals (refine W_idxS (d := 60) 0 (sq_stepper upC_sep) rfl (by kernel_rfl) rfl rfl rfl rfl ⟨by first | omega | (dsimp only; omega), by first | omega | (dsimp only; omega)⟩ ?_)
  try any_goals (refine W_loadSD (d := 61) 0 (sq_stepper upC_sep) det_Sv rfl rfl ⟨by first | omega | (dsimp only; omega), by first | omega | (dsimp only; omega)⟩ (by kernel_rfl) rfl rfl rfl ?_)
  try any_goals (refine Sq_allocL (d := 14) pSv default [.int .i64 0, .int .i64 0, .int .i64 0, .int .i64 0] (by kernel_rfl) (fun w => ⟨[_], _, rfl, rfl, [_], _, rfl, rfl, [_], _, rfl, rfl, [_], _, rfl, rfl, rfl⟩) (by kernel_rfl) rfl (fun v14 => ?_))
  try any_goals ((refine Sq_storeO1 0 (n := 4) (ix (svS t (ix fs i)) k) rfl ⟨⟨trivial, trivial, trivial, trivial, trivial⟩, ⟨trivial, trivial, trivial, trivial, trivial⟩, ⟨trivial, trivial, trivial, trivial, trivial⟩, iC_av⟩ rfl (by kernel_rfl) (Nat.le_refl _) rfl rfl (hp_D det_Sv) ?_))
  try any_goals ((refine Sq_nil ?_; try refine G_then ?_))
  try any_goals (refine H_seq ?_)
  try any_goals (refine H_subR 14 (K' := [(1, .inl u1), (2, .inl (.int .i64 cap)), (3, .inl (.pointer (some ⟨b, o, none⟩))), (6, .inl (.pointer (some ⟨g6, 0, none⟩))), (7, .inl (.pointer (some ⟨g7, 0, none⟩))), (45, .inl u1), (46, .inl (.int .i64 fs.length)), (47, .inl (.int .i64 i)), (10, .inl (.int .i64 i)), (11, .inl (ptrAt v11 0 4 0)), (56, .inl v56), (57, .inl (.int .i64 (svS t (ix fs i)).length)), (58, .inl (.int .i64 k)), (12, .inl (.int .i64 st.P)), (14, .inl (ptrAt v14 0 4 0))]) (C' := Sep q (.sl Sv 93 pSv [svX t (ix fs i) j] v14 :: .sl Sv 93 pSv (svS t (ix fs i)) v56 :: .sl Flw 54 pFlw [ix fs i] v11 :: iC g7 vB vs vs (.slice (some ⟨g21, 0, none⟩) t.T.length t.T.length) (.slice (some ⟨g24, 0, none⟩) fs.length fs.length) st.L ((bdO t fs cap i).2 ++ List.replicate (fs.length - i) 0) st.B)) (by repeat (first | exact trivial | refine ⟨⟨_, rfl, fun _ _ _ h => h⟩, ?_⟩ | refine ⟨⟨_, rfl, fun v w _ h => (show v = _ from h).trans (congrArg (Value.int .i64) (by first | omega | (dsimp only; omega)))⟩, ?_⟩)) (fun w' h => by (rw [← hje]; exact h)) ?_)
  try any_goals (refine H_draw' (by kernel_rfl) upC_sep ?_)
  try any_goals (refine W_fieldC (d := 62) wk_stepper (off := 1) (by kernel_rfl) rfl rfl rfl ?_)
  try any_goals (refine W_loadRaw (d := 63) 5 wk_stepper rfl (by kernel_rfl) rfl rfl rfl rfl ?_)
  try any_goals (refine W_fieldS (d := 64) 0 (off := 0) wk_stepper rfl (by first | omega | (simp; done) | (simp; omega)) (by kernel_rfl) rfl rfl rfl ?_)
  try any_goals (refine W_load1 (d := 65) 0 wk_stepper (Θ := pI) (q := Sv.t) _ rfl (Proj.head _ _ _) mk_I rfl (by kernel_rfl) rfl rfl rfl ?_)
  try any_goals (refine W_idxS1 (d := 66) 4 wk_stepper rfl rfl (by kernel_rfl) rfl rfl rfl rfl ⟨by omega, by omega⟩ ?_)
  try any_goals (refine W_loadSV (d := 67) 4 wk_stepper rfl ⟨by omega, by omega⟩ (by kernel_rfl) rfl rfl rfl ?_)
  try any_goals (refine W_fieldS (d := 68) 0 (off := 1) wk_stepper rfl (by first | omega | (simp; done) | (simp; omega)) (by kernel_rfl) rfl rfl rfl ?_)
  try any_goals (refine W_load1 (d := 69) 0 wk_stepper (Θ := pI) (q := Sv.p) _ rfl (Proj.tail _ _ (Proj.head _ _ _)) mk_I rfl (by kernel_rfl) rfl rfl rfl ?_)
  try any_goals (refine W_fieldS (d := 70) 0 (off := 2) wk_stepper rfl (by first | omega | (simp; done) | (simp; omega)) (by kernel_rfl) rfl rfl rfl ?_)
  try any_goals (refine W_load1 (d := 71) 0 wk_stepper (Θ := pI) (q := Sv.q) _ rfl (Proj.tail _ _ (Proj.tail _ _ (Proj.head _ _ _))) mk_I rfl (by kernel_rfl) rfl rfl rfl ?_)
  try any_goals (refine W_sliceSV (d := 72) (j + 7) wk_stepper (iC_row (by omega) (by omega)) (by kernel_rfl) rfl rfl rfl rfl rfl ⟨by omega, by omega, by omega⟩ ?_)
  try any_goals (refine Wk_assign (by kernel_rfl) (by kernel_rfl) ?_)
  try any_goals (refine W_assign (d := 15) (sq_stepper upC_sep) rfl rfl rfl ?_)
  try any_goals ((refine Sq_nil ?_; try refine G_then ?_))
  try any_goals (refine H_seq ?_)
  try any_goals (have hsll : (((ix st.L j).drop (svP t (ix fs i) j).toNat).take ((svQ t (ix fs i) j) - (svP t (ix fs i) j)).toNat).length = (svQ t (ix fs i) j - svP t (ix fs i) j).toNat := (by rw [List.length_take, List.length_drop]; omega); have hsl1 : 0 < (((ix st.L j).drop (svP t (ix fs i) j).toNat).take ((svQ t (ix fs i) j) - (svP t (ix fs i) j)).toNat).length ∧ (((ix st.L j).drop (svP t (ix fs i) j).toNat).take ((svQ t (ix fs i) j) - (svP t (ix fs i) j)).toNat).length ≤ 1048576 := (by rw [hsll]; omega); have hmz : maxZ (((ix st.L j).drop (svP t (ix fs i) j).toNat).take ((svQ t (ix fs i) j) - (svP t (ix fs i) j)).toNat) ((((ix st.L j).drop (svP t (ix fs i) j).toNat).take ((svQ t (ix fs i) j) - (svP t (ix fs i) j)).toNat).length - 1) = maxW (ix st.L j) (svP t (ix fs i) j) ((svQ t (ix fs i) j - svP t (ix fs i) j).toNat - 1) := (by rw [hsll]; exact maxZ_sub ⟨by omega, by omega⟩ (k := (svQ t (ix fs i) j - svP t (ix fs i) j).toNat - 1) (by omega)); have hmw := maxW_bd (l := (ix st.L j)) (a := (svP t (ix fs i) j)) (c := cap) (k := (svQ t (ix fs i) j - svP t (ix fs i) j).toNat - 1) (fun r hr => hok.v j ((svP t (ix fs i) j) + (r : Int)) hj (by omega) (by omega)); have hcn : (capN (ix st.L j) cap st.P (svP t (ix fs i) j) (svQ t (ix fs i) j - svP t (ix fs i) j).toNat) = min st.P (cap - maxW (ix st.L j) (svP t (ix fs i) j) ((svQ t (ix fs i) j - svP t (ix fs i) j).toNat - 1)) := (by have := capN_max (l := (ix st.L j)) (cap := cap) (n := st.P) (a := (svP t (ix fs i) j)) (k := (svQ t (ix fs i) j - svP t (ix fs i) j).toNat - 1); rw [show (svQ t (ix fs i) j - svP t (ix fs i) j).toNat - 1 + 1 = (svQ t (ix fs i) j - svP t (ix fs i) j).toNat by omega] at this; exact this); refine H_subR 15 (K' := [(1, .inl u1), (2, .inl (.int .i64 cap)), (3, .inl (.pointer (some ⟨b, o, none⟩))), (6, .inl (.pointer (some ⟨g6, 0, none⟩))), (7, .inl (.pointer (some ⟨g7, 0, none⟩))), (45, .inl u1), (46, .inl (.int .i64 fs.length)), (47, .inl (.int .i64 i)), (10, .inl (.int .i64 i)), (11, .inl (ptrAt v11 0 4 0)), (56, .inl v56), (57, .inl (.int .i64 (svS t (ix fs i)).length)), (58, .inl (.int .i64 k)), (12, .inl (.int .i64 st.P)), (14, .inl (ptrAt v14 0 4 0)), (15, .inl (subV (ix vs j) (svP t (ix fs i) j) ((svQ t (ix fs i) j) - (svP t (ix fs i) j))))]) (C' := Sep q (.sl Sv 93 pSv [svX t (ix fs i) j] v14 :: .sl Sv 93 pSv (svS t (ix fs i)) v56 :: .sl Flw 54 pFlw [ix fs i] v11 :: iC g7 vB vs vs (.slice (some ⟨g21, 0, none⟩) t.T.length t.T.length) (.slice (some ⟨g24, 0, none⟩) fs.length fs.length) st.L ((bdO t fs cap i).2 ++ List.replicate (fs.length - i) 0) st.B)) (by repeat (first | exact trivial | refine ⟨⟨_, rfl, fun _ _ _ h => h⟩, ?_⟩ | refine ⟨⟨_, rfl, fun v w _ h => (show v = _ from h).trans (congrArg (Value.int .i64) (by first | omega | (dsimp only; omega)))⟩, ?_⟩)) (fun w' h => h) ?_)
  try any_goals (refine H_reg ?_)
  try any_goals (refine W_move (d := 73) (sq_stepper upC_sep) rfl rfl rfl ?_)
  try any_goals (refine W_move (d := 74) (sq_stepper upC_sep) rfl rfl rfl ?_)
  try any_goals (refine W_moveR (d := 75) (sq_stepper upC_sep) (U := uS (some 3) pI (((ix st.L j).drop (svP t (ix fs i) j).toNat).take ((svQ t (ix fs i) j) - (svP t (ix fs i) j)).toNat)) (fun w' h => Sep.subS h (iC_row (by omega) (by omega)) ⟨by omega, by omega, by omega⟩) rfl rfl rfl ?_)
  try any_goals (refine W_ct (d := 76) (sq_stepper upC_sep) (ct_MaxInt _ hsl1) rfl rfl rfl (by kernel_rfl) ?_)
  try any_goals (refine W_ar (d := 77) (sq_stepper upC_sep) rfl rfl rfl rfl rfl (by first | omega | (dsimp only; omega)) ?_)
  try any_goals (refine W_min (d := 78) (sq_stepper upC_sep) rfl rfl rfl rfl ?_)
  try any_goals (refine W_assign (d := 16) (sq_stepper upC_sep) rfl rfl rfl ?_)
  try any_goals ((refine Sq_nil ?_; try refine G_then ?_))
  try any_goals (refine H_seq ?_)
  try any_goals (refine H_seq ?_)
  try any_goals (refine H_subR 16 (K' := [(1, .inl u1), (2, .inl (.int .i64 cap)), (3, .inl (.pointer (some ⟨b, o, none⟩))), (6, .inl (.pointer (some ⟨g6, 0, none⟩))), (7, .inl (.pointer (some ⟨g7, 0, none⟩))), (45, .inl u1), (46, .inl (.int .i64 fs.length)), (47, .inl (.int .i64 i)), (10, .inl (.int .i64 i)), (11, .inl (ptrAt v11 0 4 0)), (56, .inl v56), (57, .inl (.int .i64 (svS t (ix fs i)).length)), (58, .inl (.int .i64 k)), (12, .inl (.int .i64 st.P)), (14, .inl (ptrAt v14 0 4 0)), (15, .inl (subV (ix vs j) (svP t (ix fs i) j) ((svQ t (ix fs i) j) - (svP t (ix fs i) j)))), (16, .inl (.int .i64 (capN (ix st.L j) cap st.P (svP t (ix fs i) j) (svQ t (ix fs i) j - svP t (ix fs i) j).toNat)))]) (C' := Sep q (.sl Sv 93 pSv [svX t (ix fs i) j] v14 :: .sl Sv 93 pSv (svS t (ix fs i)) v56 :: .sl Flw 54 pFlw [ix fs i] v11 :: iC g7 vB vs vs (.slice (some ⟨g21, 0, none⟩) t.T.length t.T.length) (.slice (some ⟨g24, 0, none⟩) fs.length fs.length) st.L ((bdO t fs cap i).2 ++ List.replicate (fs.length - i) 0) st.B)) (by repeat (first | exact trivial | refine ⟨⟨_, rfl, fun _ _ _ h => h⟩, ?_⟩ | refine ⟨⟨_, rfl, fun v w _ h => (show v = _ from h).trans (congrArg (Value.int .i64) (by first | omega | (dsimp only; omega)))⟩, ?_⟩)) (fun w' h => h) ?_)
  try any_goals (refine H_reg ?_)
  try any_goals (refine W_move (d := 79) (sq_stepper upC_sep) rfl rfl rfl ?_)
  try any_goals (refine W_cmp (d := 80) (sq_stepper upC_sep) rfl rfl rfl rfl rfl ?_)
  try any_goals ((refine Sq_nil ?_; try refine G_then ?_))
  try any_goals ((refine H_cond _ rfl (fun hq => ?_) (fun hq => Wt.un 9 ?_) <;> (try simp only [hqs, reduceCtorEq] at hq)))
  try any_goals (first | ((have htr := tabB_at hv (i := (i : Int)) (by omega) (by omega); have hz := tabB_lin hv (i := (i : Int)) (by omega) (by omega); have hzr := hz.r; have hzs := hz.s)) | skip)
  try any_goals (refine H_exit ?_)
  repeat (any_goals (first | refine G_exit_then ?_ | refine G_exit_here ?_ | refine G_exit_far rfl ?_))
  try any_goals (refine G_hold 11 ?_)
  try any_goals (refine Wt.out 9 ?_)
  try any_goals (refine H_skip ?_)
  try any_goals (refine G_then ?_)
  try any_goals (refine H_seq ?_)
  try any_goals ((refine H_seq ?_; try refine H_reg ?_))
  try any_goals (refine W_move (d := 81) (sq_stepper upC_sep) rfl rfl rfl ?_)
  try any_goals (refine W_lenSV (d := 82) (j + 7) (sq_stepper upC_sep) (iC_row (by omega) (by omega)) (by omega) (by omega) (by kernel_rfl) rfl rfl rfl ?_)
  try any_goals (refine W_move (d := 83) (sq_stepper upC_sep) rfl rfl rfl ?_)
  try any_goals ((refine Sq_nil ?_; try refine G_then ?_))
  try any_goals (refine H_block ?_)
  try any_goals ((have hN : 0 ≤ (capN (ix st.L j) cap st.P (svP t (ix fs i) j) (svQ t (ix fs i) j - svP t (ix fs i) j).toNat) ∧ (capN (ix st.L j) cap st.P (svP t (ix fs i) j) (svQ t (ix fs i) j - svP t (ix fs i) j).toNat) ≤ st.P := hN0; have hnx : bdIn cap i (ix fs i) (svS t (ix fs i)) (bdP (bdO t fs cap i).1 (ix fs i).P) (k + 1) = ⟨st.L.set j (addW (ix st.L j) (svP t (ix fs i) j) (capN (ix st.L j) cap st.P (svP t (ix fs i) j) (svQ t (ix fs i) j - svP t (ix fs i) j).toNat) (svQ t (ix fs i) j - svP t (ix fs i) j).toNat), st.P - (capN (ix st.L j) cap st.P (svP t (ix fs i) j) (svQ t (ix fs i) j - svP t (ix fs i) j).toNat), st.M + (capN (ix st.L j) cap st.P (svP t (ix fs i) j) (svQ t (ix fs i) j - svP t (ix fs i) j).toNat) * (svT t j (svQ t (ix fs i) j) - (ix fs i).M), st.N + (capN (ix st.L j) cap st.P (svP t (ix fs i) j) (svQ t (ix fs i) j - svP t (ix fs i) j).toNat), st.O.set (ix fs i).F.toNat (ix st.O (ix fs i).F + (capN (ix st.L j) cap st.P (svP t (ix fs i) j) (svQ t (ix fs i) j - svP t (ix fs i) j).toNat)), st.F.set (ix fs i).T.toNat (ix st.F (ix fs i).T + (capN (ix st.L j) cap st.P (svP t (ix fs i) j) (svQ t (ix fs i) j - svP t (ix fs i) j).toNat)), st.B ++ [⟨i, svX t (ix fs i) j, (capN (ix st.L j) cap st.P (svP t (ix fs i) j) (svQ t (ix fs i) j - svP t (ix fs i) j).toNat)⟩]⟩ := (by rw [bdIn, hst, hje]; show (⟨st.L.set j (addW (ix st.L j) (svP t (ix fs i) j) (capN (ix st.L j) cap st.P (svP t (ix fs i) j) (svQ t (ix fs i) j - svP t (ix fs i) j).toNat) (svQ t (ix fs i) j - svP t (ix fs i) j).toNat), st.P - (capN (ix st.L j) cap st.P (svP t (ix fs i) j) (svQ t (ix fs i) j - svP t (ix fs i) j).toNat), st.M + (capN (ix st.L j) cap st.P (svP t (ix fs i) j) (svQ t (ix fs i) j - svP t (ix fs i) j).toNat) * (svT t j (svQ t (ix fs i) j) - (ix fs i).M), st.N + (capN (ix st.L j) cap st.P (svP t (ix fs i) j) (svQ t (ix fs i) j - svP t (ix fs i) j).toNat), st.O.set (ix fs i).F.toNat (ix st.O (ix fs i).F + (capN (ix st.L j) cap st.P (svP t (ix fs i) j) (svQ t (ix fs i) j - svP t (ix fs i) j).toNat)), st.F.set (ix fs i).T.toNat (ix st.F (ix fs i).T + (capN (ix st.L j) cap st.P (svP t (ix fs i) j) (svQ t (ix fs i) j - svP t (ix fs i) j).toNat)), if (capN (ix st.L j) cap st.P (svP t (ix fs i) j) (svQ t (ix fs i) j - svP t (ix fs i) j).toNat) = 0 then st.B else st.B ++ [⟨i, svX t (ix fs i) j, (capN (ix st.L j) cap st.P (svP t (ix fs i) j) (svQ t (ix fs i) j - svP t (ix fs i) j).toNat)⟩]⟩ : Bd) = _; rw [if_neg hq]); generalize (capN (ix st.L j) cap st.P (svP t (ix fs i) j) (svQ t (ix fs i) j - svP t (ix fs i) j).toNat) = n at hN hnx ⊢; refine H_loop (σ := Nat) (fun m => (m : Int) ≤ (svQ t (ix fs i) j) - (svP t (ix fs i) j)) (fun m => [(1, .inl u1), (2, .inl (.int .i64 cap)), (3, .inl (.pointer (some ⟨b, o, none⟩))), (6, .inl (.pointer (some ⟨g6, 0, none⟩))), (7, .inl (.pointer (some ⟨g7, 0, none⟩))), (45, .inl u1), (46, .inl (.int .i64 fs.length)), (47, .inl (.int .i64 i)), (10, .inl (.int .i64 i)), (11, .inl (ptrAt v11 0 4 0)), (56, .inl v56), (57, .inl (.int .i64 (svS t (ix fs i)).length)), (58, .inl (.int .i64 k)), (12, .inl (.int .i64 st.P)), (14, .inl (ptrAt v14 0 4 0)), (15, .inl (subV (ix vs j) (svP t (ix fs i) j) ((svQ t (ix fs i) j) - (svP t (ix fs i) j)))), (16, .inl (.int .i64 n)), (81, .inl (subV (ix vs j) (svP t (ix fs i) j) ((svQ t (ix fs i) j) - (svP t (ix fs i) j)))), (82, .inl (.int .i64 ((svQ t (ix fs i) j) - (svP t (ix fs i) j)))), (83, .inl (.int .i64 m))]) (fun m => Sep q (.sl Sv 93 pSv [svX t (ix fs i) j] v14 :: .sl Sv 93 pSv (svS t (ix fs i)) v56 :: .sl Flw 54 pFlw [ix fs i] v11 :: iC g7 vB vs vs (.slice (some ⟨g21, 0, none⟩) t.T.length t.T.length) (.slice (some ⟨g24, 0, none⟩) fs.length fs.length) (st.L.set j (addW (ix st.L j) (svP t (ix fs i) j) n m)) ((bdO t fs cap i).2 ++ List.replicate (fs.length - i) 0) st.B)) (fun m => (svQ t (ix fs i) j - svP t (ix fs i) j).toNat - m) 0 (by omega) (fun a w' h => h.sub (by repeat (first | exact trivial | refine ⟨⟨_, rfl, fun _ _ _ h => h⟩, ?_⟩ | refine ⟨⟨_, rfl, fun v w _ h => (show v = _ from h).trans (congrArg (Value.int .i64) (by first | omega | (dsimp only; omega)))⟩, ?_⟩)) (fun w' h => by (rw [show addW (ix st.L j) (svP t (ix fs i) j) n 0 = (ix st.L j) from rfl, set_same_ix]; exact h))) (fun m hm => ?_)))
  try any_goals ((refine H_seq ?_; try refine H_reg ?_))
  try any_goals (refine W_cmp (d := 84) (sq_stepper upC_sep) rfl rfl rfl rfl rfl ?_)
  try any_goals ((refine Sq_nil ?_; try refine G_then ?_))
  try any_goals (refine H_seq ?_)
  try any_goals ((refine H_cond _ rfl (fun hq => ?_) (fun hq => Wt.un 12 ?_) <;> (try simp only [hqs, reduceCtorEq] at hq)))
  try any_goals (first | ((have htr := tabB_at hv (i := (i : Int)) (by omega) (by omega); have hz := tabB_lin hv (i := (i : Int)) (by omega) (by omega); have hzr := hz.r; have hzs := hz.s)) | skip)
  try any_goals (refine H_skip ?_)
  try any_goals (refine G_hold 13 ?_)
  try any_goals (refine Wt.out 12 ?_)
  try any_goals (refine H_exit ?_)
  repeat (any_goals (first | refine G_exit_then ?_ | refine G_exit_here ?_ | refine G_exit_far rfl ?_))
  try any_goals (refine G_hold 14 ?_)
  try any_goals (refine Wt.out 13 ?_)
  try any_goals (refine G_then ?_)
  try any_goals (refine H_seq ?_)
  try any_goals (refine H_block ?_)
  try any_goals ((refine H_seq ?_; try refine H_reg ?_))
  try any_goals (refine W_move (d := 85) (sq_stepper upC_sep) rfl rfl rfl ?_)
  try any_goals (refine W_assign (d := 17) (sq_stepper upC_sep) rfl rfl rfl ?_)
  try any_goals ((refine Sq_nil ?_; try refine G_then ?_))
  try any_goals (have hax : ix (addW (ix st.L j) (svP t (ix fs i) j) n m) ((svP t (ix fs i) j) + (m : Int)) = ix (ix st.L j) ((svP t (ix fs i) j) + m) := (by rw [addW_ix (by omega) (by omega) (by omega), if_neg (by omega)]); have hvm := hok.v j ((svP t (ix fs i) j) + (m : Int)) hj (by omega) (by omega); have hal : (addW (ix st.L j) (svP t (ix fs i) j) n m).length = (ix st.L j).length := addW_len)
  try any_goals (refine H_reg ?_)
  try any_goals (refine W_move (d := 86) (sq_stepper upC_sep) rfl rfl rfl ?_)
  try any_goals (refine W_move (d := 87) (sq_stepper upC_sep) rfl rfl rfl ?_)
  try any_goals (refine W_idxSV (d := 88) (j + 7) (sq_stepper upC_sep) (iC_rowS (by omega) (by omega)) (by kernel_rfl) rfl rfl rfl rfl ⟨by omega, by omega, by omega, by omega⟩ ?_)
  try any_goals (refine W_loadSI (d := 89) (j + 7) (sq_stepper upC_sep) (iC_rowS (by omega) (by omega)) ⟨by omega, by omega⟩ (by kernel_rfl) rfl rfl rfl ?_)
  try any_goals (refine W_move (d := 90) (sq_stepper upC_sep) rfl rfl rfl ?_)
  try any_goals (refine W_ar (d := 91) (sq_stepper upC_sep) rfl rfl rfl rfl rfl (by first | omega | (dsimp only; omega)) ?_)
  try any_goals (refine W_idxSV (d := 92) (j + 7) (sq_stepper upC_sep) (iC_rowS (by omega) (by omega)) (by kernel_rfl) rfl rfl rfl rfl ⟨by omega, by omega, by omega, by omega⟩ ?_)
  try any_goals (refine Sq_storeSI (j + 7) (iC_rowS (by omega) (by omega)) ⟨⟨trivial, trivial, trivial, trivial, trivial⟩, ⟨trivial, trivial, trivial, trivial, trivial⟩, ⟨trivial, trivial, trivial, trivial, trivial⟩, iC_av⟩ ⟨by omega, by omega⟩ (by kernel_rfl) rfl rfl ?_)
  try any_goals (refine Sq_nil ?_)
  repeat (any_goals (first | refine G_exit_then ?_ | refine G_exit_here ?_ | refine G_exit_far rfl ?_ | refine G_normal_block ?_))
  try any_goals (refine G_then ?_)
  try any_goals (refine H_reg ?_)
  try any_goals (refine W_ar (d := 93) (sq_stepper upC_sep) rfl rfl rfl rfl rfl (by first | omega | (dsimp only; omega)) ?_)
  try any_goals (refine W_move (d := 83) (sq_stepper upC_sep) rfl rfl rfl ?_)
  try any_goals (refine Sq_nil ?_)
  try any_goals (refine G_again (m + 1) (by omega) (by omega) (by repeat (first | exact trivial | refine ⟨⟨_, rfl, fun _ _ _ h => h⟩, ?_⟩ | refine ⟨⟨_, rfl, fun v w _ h => (show v = _ from h).trans (congrArg (Value.int .i64) (by first | omega | (dsimp only; omega)))⟩, ?_⟩)) (fun w' h => by (rw [iC_setS (by omega) (by omega)] at h; exact h)))
  try any_goals (refine Wt.out 14 ?_)
  repeat (any_goals (first | refine G_exit_then ?_ | refine G_exit_here ?_ | refine G_exit_far rfl ?_ | refine G_normal_block ?_))
  try any_goals (refine G_then ?_)
  try any_goals (refine H_seq ?_)
  try any_goals (obtain rfl : m = (svQ t (ix fs i) j - svP t (ix fs i) j).toNat := (by omega))
  try any_goals (refine H_reg ?_)
  try any_goals (refine W_fieldC (d := 94) (sq_stepper upC_sep) (off := 0) (by kernel_rfl) rfl rfl rfl ?_)
  try any_goals (refine W_loadRaw (d := 95) 5 (sq_stepper upC_sep) rfl (by kernel_rfl) rfl rfl rfl rfl ?_)
  try any_goals (refine W_move (d := 96) (sq_stepper upC_sep) rfl rfl rfl ?_)
  try any_goals (refine W_loadSD (d := 97) 0 (sq_stepper upC_sep) det_Sv rfl rfl ⟨by simp, by simp⟩ (by kernel_rfl) rfl rfl rfl ?_)
  try any_goals (refine W_move (d := 98) (sq_stepper upC_sep) rfl rfl rfl ?_)
  try any_goals (refine W_build3 (d := 99) (sq_stepper upC_sep) pBg (⟨i, svX t (ix fs i) j, n⟩ : Bg) [.int .i64 i, .int .i64 j, .int .i64 (svP t (ix fs i) j), .int .i64 (svQ t (ix fs i) j), .int .i64 (svT t j (svQ t (ix fs i) j)), .int .i64 n] rfl rfl rfl (by kernel_rfl) (fun w => ⟨[_], _, rfl, rfl, _, _, rfl, pSv_i _ w, [_], _, rfl, rfl, rfl⟩) rfl rfl ?_)
  try any_goals (refine W_buildS (d := 100) (sq_stepper upC_sep) [(.tmp 99)] pBg [_] (e := 103) (by kernel_rfl) (by kernel_rfl) rfl rfl (by kernel_rfl) rfl rfl rfl ⟨elem_A, trivial⟩ ?_)
  try any_goals (refine Sq_appS (d := 101) 3 (Ψ := pBg) rfl ⟨⟨trivial, trivial, trivial, trivial, trivial⟩, ⟨trivial, trivial, trivial, trivial, trivial⟩, ⟨trivial, trivial, trivial, trivial, trivial⟩, iC_av⟩ (by kernel_rfl) (by kernel_rfl) rfl rfl rfl ⟨by simp only [List.length_cons, List.length_nil]; omega, by simp⟩ (fun va => ?_); refine Sq_slV 3 rfl (fun hone => ?_))
  try any_goals (refine W_fieldC (d := 102) (sq_stepper upC_sep) (off := 0) (by kernel_rfl) rfl rfl rfl ?_)
  try any_goals (refine Sq_storeRaw 5 (k := 1) (vs := [va]) rfl ⟨⟨trivial, trivial, trivial, trivial, trivial⟩, ⟨trivial, trivial, trivial, trivial, trivial⟩, ⟨trivial, trivial, trivial, trivial, trivial⟩, ⟨trivial, ⟨trivial, trivial, trivial, trivial, trivial⟩, trivial, trivial⟩, trivial, trivial, trivial, avAll_rows⟩ (by kernel_rfl) rfl rfl rfl (raw_v hone) (Nat.le_of_ble_eq_true rfl) ?_)
  try any_goals ((refine Sq_nil ?_; try refine G_then ?_))
  try any_goals (refine H_reg ?_)
  try any_goals (refine W_move (d := 103) (sq_stepper upC_sep) rfl rfl rfl ?_)
  try any_goals (refine W_move (d := 104) (sq_stepper upC_sep) rfl rfl rfl ?_)
  try any_goals (refine W_ar (d := 105) (sq_stepper upC_sep) rfl rfl rfl rfl rfl (by first | omega | (dsimp only; omega)) ?_)
  try any_goals (refine W_assign (d := 12) (sq_stepper upC_sep) rfl rfl rfl ?_)
  try any_goals (refine Sq_nil ?_)
  try any_goals (refine Wt.out 11 ?_)
  repeat (any_goals (first | refine G_exit_then ?_ | refine G_exit_here ?_ | refine G_exit_far rfl ?_ | refine G_normal_block ?_))
  try any_goals (refine G_then ?_)
  try any_goals (refine H_reg ?_)
  try any_goals (refine W_ar (d := 106) (sq_stepper upC_sep) rfl rfl rfl rfl rfl (by first | omega | (dsimp only; omega)) ?_)
  try any_goals (refine W_move (d := 58) (sq_stepper upC_sep) rfl rfl rfl ?_)
  try any_goals (refine Sq_nil ?_)
  try any_goals (first | refine G_again (k + 1, va) (by simp only; omega) (by simp only; omega) (by (try dsimp only); rw [hnx]; exact (by repeat (first | exact trivial | refine ⟨⟨_, rfl, fun _ _ _ h => h⟩, ?_⟩ | refine ⟨⟨_, rfl, fun v w _ h => (show v = _ from h).trans (congrArg (Value.int .i64) (by first | omega | (dsimp only; omega)))⟩, ?_⟩))) (fun w' h => by ((try dsimp only); rw [hnx]; exact h.drop)) | (have hz0 := bdStep_zero (cap := cap) (i := i) (f := ix fs i) (st := st) (s := svX t (ix fs i) j) hq (by omega) (by omega); rw [← show bdIn cap i (ix fs i) (svS t (ix fs i)) (bdP (bdO t fs cap i).1 (ix fs i).P) (k + 1) = bdStep cap i (ix fs i) st (svX t (ix fs i) j) by rw [bdIn, hst, hje]] at hz0; refine G_again (k + 1, vB) (by simp only; omega) (by simp only; omega) (by (try dsimp only); rw [hz0.2.1]; exact (by repeat (first | exact trivial | refine ⟨⟨_, rfl, fun _ _ _ h => h⟩, ?_⟩ | refine ⟨⟨_, rfl, fun v w _ h => (show v = _ from h).trans (congrArg (Value.int .i64) (by first | omega | (dsimp only; omega)))⟩, ?_⟩))) (fun w' h => by ((try dsimp only); rw [hz0.1, hz0.2.2]; exact h.drop))))
  try any_goals (refine Wt.out 8 ?_)
  repeat (any_goals (first | refine G_exit_then ?_ | refine G_exit_here ?_ | refine G_exit_far rfl ?_ | refine G_normal_block ?_))
  try any_goals (refine G_then ?_)
  try any_goals (refine H_reg ?_)
  try any_goals (refine W_fieldC (d := 107) (sq_stepper upC_sep) (off := 2) (by kernel_rfl) rfl rfl rfl ?_)
  try any_goals (refine W_loadRaw (d := 108) 4 (sq_stepper upC_sep) rfl (by kernel_rfl) rfl rfl rfl rfl ?_)
  try any_goals (refine W_move (d := 109) (sq_stepper upC_sep) rfl rfl rfl ?_)
  try any_goals (refine W_move (d := 110) (sq_stepper upC_sep) rfl rfl rfl ?_)
  try any_goals (refine W_idxS1 (d := 111) 5 (sq_stepper upC_sep) rfl rfl (by kernel_rfl) rfl rfl rfl rfl ⟨by omega, by rw [List.length_append, bdO_left, List.length_replicate]; omega⟩ ?_)
  try any_goals (refine Sq_storeSI 5 rfl ⟨⟨trivial, trivial, trivial, trivial, trivial⟩, ⟨trivial, trivial, trivial, trivial, trivial⟩, iC_av⟩ ⟨by omega, by rw [List.length_append, bdO_left, List.length_replicate]; omega⟩ (by kernel_rfl) rfl rfl ?_)
  try any_goals (refine Sq_nil ?_)
  repeat (any_goals (first | refine G_exit_then ?_ | refine G_exit_here ?_ | refine G_exit_far rfl ?_ | refine G_normal_block ?_))
  try any_goals (refine G_then ?_)
  try any_goals (refine H_reg ?_)
  try any_goals (refine W_ar (d := 112) (sq_stepper upC_sep) rfl rfl rfl rfl rfl (by first | omega | (dsimp only; omega)) ?_)
  try any_goals (refine W_move (d := 47) (sq_stepper upC_sep) rfl rfl rfl ?_)
  try any_goals (refine Sq_nil ?_)
  try any_goals (refine G_again (i + 1, vB) (by simp only; omega) (by simp only; omega) (by repeat (first | exact trivial | refine ⟨⟨_, rfl, fun _ _ _ h => h⟩, ?_⟩ | refine ⟨⟨_, rfl, fun v w _ h => (show v = _ from h).trans (congrArg (Value.int .i64) (by first | omega | (dsimp only; omega)))⟩, ?_⟩)) (fun w' h => ?_))
  try any_goals (refine Wt.out 5 ?_)
  repeat (any_goals (first | refine G_exit_then ?_ | refine G_exit_here ?_ | refine G_exit_far rfl ?_ | refine G_normal_block ?_))
  try any_goals (refine G_then ?_)
  try any_goals (refine H_seq ?_)
  try any_goals (obtain rfl : i = fs.length := (by omega); refine H_subR 27 (K' := [(6, .inl (.pointer (some ⟨g6, 0, none⟩))), (7, .inl (.pointer (some ⟨g7, 0, none⟩)))]) (C' := Sep w (.raw 100 g6 [.slice none 0 0, .slice none 0 0, .slice none 0 0] :: iC g7 vB vs vs (.slice (some ⟨g21, 0, none⟩) t.T.length t.T.length) (.slice (some ⟨g24, 0, none⟩) fs.length fs.length) (bdO t fs cap fs.length).1.L (bdO t fs cap fs.length).2 (bdO t fs cap fs.length).1.B)) (by repeat (first | exact trivial | refine ⟨⟨_, rfl, fun _ _ _ h => h⟩, ?_⟩ | refine ⟨⟨_, rfl, fun v w _ h => (show v = _ from h).trans (congrArg (Value.int .i64) (by first | omega | (dsimp only; omega)))⟩, ?_⟩)) (fun w' h => Sep.base hE hb6 hg6 (by (simp only [Nat.sub_self, List.replicate_zero, List.append_nil] at h; exact h))) ?_)
  try any_goals (refine H_reg ?_)
  try any_goals (refine W_loadRawA (d := 113) 3 (sq_stepper upC_sep) rfl (by kernel_rfl) rfl rfl rfl rfl ?_)
  try any_goals (refine Sq_slV 1 rfl (fun h1 => ?_); refine Sq_storeRaw 0 (k := 3) (vs := [vB, (.slice (some ⟨g21, 0, none⟩) t.T.length t.T.length), (.slice (some ⟨g24, 0, none⟩) fs.length fs.length)]) rfl ⟨trivial, iC_av⟩ (by kernel_rfl) rfl rfl rfl (raw_ag (by intro x hx; simp only [List.mem_cons, List.not_mem_nil, or_false] at hx; rcases hx with rfl | rfl | rfl <;> first | exact h1 | rfl)) (Nat.le_of_ble_eq_true rfl) ?_)
  try any_goals ((refine Sq_nil ?_; try refine G_then ?_))
  try any_goals (refine H_ret ?_)
  repeat (any_goals (first | refine G_ret_then ?_ | refine G_ret_block ?_))
  all_goals first
    | (have em : (trLin t i).R.length = (trLin t i).S.length - 1 := by omega
       have h := (sep_end h).drop
       show Sep q (_ :: .sl Value _ pV (vs ++ [_] ++ List.replicate (t.T.length - (i + 1)) _) _ :: _ :: _ :: rowsZ (bdRow t (i + 1)) (vs ++ [_])) w'
       rw [bdRow_snoc, ← em, rowsZ_snoc (by rw [bdRow_len, hvl]), ← set_fill hvl (by omega)]
       exact h)
    | (obtain rfl : k = (svS t (ix fs i)).length := by omega
       show Sep q (iC g7 vB vs vs (.slice (some ⟨g21, 0, none⟩) t.T.length t.T.length) (.slice (some ⟨g24, 0, none⟩) fs.length fs.length) (bdO t fs cap (i + 1)).1.L ((bdO t fs cap (i + 1)).2 ++ List.replicate (fs.length - (i + 1)) 0) (bdO t fs cap (i + 1)).1.B) w'
       have h := h.drop.drop
       rw [bdO, hst, ← set_fill bdO_left (by omega)]
       exact h)
    | exact RcellX 0 rfl (by kernel_rfl) rfl rfl rfl (fun w' h => ⟨⟨g6, g7, vB, vs, (.slice (some ⟨g21, 0, none⟩) t.T.length t.T.length), (.slice (some ⟨g24, 0, none⟩) fs.length fs.length)⟩, ⟨h, hvl⟩, rfl⟩)
    | trace_state
end Go.Proofs.Ytfnihicngoaejaa

/- Taking and parking in a depot: the reference's side. -/
import Derived.Test.YtbipnenkgkebjaaDtk
namespace Go.Proofs.Ytbipnenkgkebjaa
set_option linter.unusedSimpArgs false
set_option linter.unusedVariables false
open Go.RowKit Go.ChangeShapes Go.WideShapes Go.ChangeAt Go.Deep
theorem Sep.rawLo {w0 w : World} {L : List Osl} (h : Sep w0 L w) {m : Nat} {e : TypeId} {g : Nat} {cs : List Value} (hm : L[m]? = some (.raw e g cs)) : w0.heap.size ≤ g := by
  unfold Sep at h
  obtain ⟨Bs, hl, hc⟩ := h
  have hml : m < Bs.length := by rw [hl]; exact (List.getElem?_eq_some_iff.1 hm).1
  have hx := List.getElem?_eq_getElem hml
  have e2 : Bs[m] = (some g, e, cs) := hc.fct m _ _ hm hx
  rw [e2] at hx
  exact hc.lo g (List.mem_filterMap.2 ⟨_, List.mem_of_getElem? hx, rfl⟩)
theorem ptrAt_one {g k : Nat} : ptrAt (.slice (some ⟨g, 0, none⟩) 1 1) 0 k 0 = .pointer (some ⟨g, 0, none⟩) := by
  unfold ptrAt ptrOf
  simp
/-- A block whose cells are known, as a local struct. -/
theorem Sep.asL {w0 w : World} {L : List Osl} (h : Sep w0 L w) {m : Nat} {e : TypeId} {g : Nat} {cs : List Value} {α : Type} {Ψ : Phi α} {z : α} (hm : L[m]? = some (.raw e g cs)) (hφ : ∀ w, Ψ.φ z cs w) : Sep w0 (L.set m (.sl α e Ψ [z] (.slice (some ⟨g, 0, none⟩) 1 1))) w := by
  unfold Sep at h ⊢
  obtain ⟨Bs, hl, hc⟩ := h
  refine ⟨Bs, by simp [hl], hc.fact fun hf m' o x hm' hx => ?_⟩
  by_cases em : m = m'
  · subst em
    have hml : m < L.length := (List.getElem?_eq_some_iff.1 hm).1
    rw [List.getElem?_set_self hml] at hm'
    injection hm' with hm'
    subst hm'
    have e1 : x = (some g, e, cs) := hf m _ _ hm hx
    subst e1
    have hk := Ψ.len _ _ _ (hφ w)
    refine ⟨1, rfl, ⟨_, rfl, .inl rfl⟩, Nat.le_refl _, by simp [maxLen], by simp [hk], (fun h => by cases h), fun j z' hz => ?_⟩
    cases j with
    | zero =>
      simp only [List.getElem?_cons_zero, Option.some.injEq] at hz
      subst hz
      rw [Nat.zero_mul, List.drop_zero, List.take_of_length_le (by rw [hk]; exact Nat.le_refl _)]
      exact hφ w
    | succ j => simp at hz
  · rw [List.getElem?_set_ne em] at hm'
    exact hf m' o x hm' hx
section
variable {P : Program} {ops : Array Oper} {C : World → Prop} {Q : Exit → Act → World → Prop} {N : Nat} {K : List (Nat × Pr)} {rest : List Oper} {d : Nat} {ty : TypeId} {pos : String} {af : Array Edge} {w0 : World} {L : List Osl}
theorem Sq_storeL (m : Nat) {α : Type} [Inhabited α] {e : TypeId} {Ψ : Phi α} {z : α} {g : Nat} {x y : Operand} {t : TypeId} (z' : α) (hm : L[m]? = some (.sl α e Ψ [z] (.slice (some ⟨g, 0, none⟩) 1 1))) (hav : avAll L e) (hsz : allocB P t Ψ.k = true)
    (hy : kn K y = some (.inl (.pointer (some ⟨g, 0, none⟩)))) (hx : kn K x = some (.inr (uA Ψ z'))) (h : Sq P ops N (Sep w0 (L.set m (.sl α e Ψ [z'] (.slice (some ⟨g, 0, none⟩) 1 1)))) Q (dropR K) rest) : Sq P ops N (Sep w0 L) Q K (⟨none, .store t y x, ty, pos, af, none⟩ :: rest) :=
  Sq_storeO1 m (ks := Ψ.k) (off := 0) z' hm hav rfl hsz (by omega) (by rw [ptrAt_one]; exact hy) hx hp_A h
theorem RL_c1 (m : Nat) {fn : Func} {w00 : World} {α : Type} [Inhabited α] {Ψ : Phi α} {z z' : α} {g : Nat} {t t2 : Nat} {p2 q2 : Pr} {e ty : TypeId} (hres : fn.results = #[.cell t ty, .tmp t2]) (hB : aggB P ty Ψ.k = true) (hE : ∀ w, Sep w0 L w → Ext w00 w) (ht : lookK K t = some (.inl (.pointer (some ⟨g, 0, none⟩)))) (h2 : lookK K t2 = some p2) (hm : L[m]? = some (.sl α e Ψ [z] (.slice (some ⟨g, 0, none⟩) 1 1))) (hz : z = z')
    (hq2 : ∀ v w, Sep w0 L w → p2.ok v w → q2.ok v w) : Go_ N K (Sep w0 L) (bodyPost P fn (Post w00 (.inr (uT [.inr (uA Ψ z'), q2]))) .ret) :=
  RS_c1 m hres hB hE (by rw [ptrAt_one]; exact ht) h2 hm hz hq2
theorem RL_c2 (m : Nat) {fn : Func} {w00 : World} {α : Type} [Inhabited α] {Ψ : Phi α} {z z' : α} {g : Nat} {t t2 t3 : Nat} {p2 q2 p3 q3 : Pr} {e ty : TypeId} (hres : fn.results = #[.cell t ty, .tmp t2, .tmp t3]) (hB : aggB P ty Ψ.k = true) (hE : ∀ w, Sep w0 L w → Ext w00 w) (ht : lookK K t = some (.inl (.pointer (some ⟨g, 0, none⟩)))) (h2 : lookK K t2 = some p2) (h3 : lookK K t3 = some p3) (hm : L[m]? = some (.sl α e Ψ [z] (.slice (some ⟨g, 0, none⟩) 1 1))) (hz : z = z')
    (hq2 : ∀ v w, Sep w0 L w → p2.ok v w → q2.ok v w) (hq3 : ∀ v w, Sep w0 L w → p3.ok v w → q3.ok v w) : Go_ N K (Sep w0 L) (bodyPost P fn (Post w00 (.inr (uT [.inr (uA Ψ z'), q2, q3]))) .ret) :=
  RS_c2 m hres hB hE (by rw [ptrAt_one]; exact ht) h2 h3 hm hz hq2 hq3
end
instance : Inhabited Dep := ⟨⟨[], []⟩⟩
theorem dep_nil : ∀ w, bDep.φ ⟨[], []⟩ [.slice none 0 0, .slice none 0 0] w := fun w => ⟨[_], _, rfl, ⟨_, rfl, isS_nil⟩, [_], _, rfl, ⟨_, rfl, isS_nil⟩, rfl⟩
theorem av_dep : bDep.Av 29 := (by repeat (first | exact av_nil | exact av_I | exact av_B | exact av_Str | refine av_S (by decide) ?_ | refine av_cat ?_ ?_ | refine av_Q (by decide) ?_))
theorem set_two {α : Type _} {L : List α} {a b b' : α} : (L ++ [a, b]).set (L.length + 1) b' = L ++ [a, b'] := by
  rw [List.set_append_right _ _ (by omega), show L.length + 1 - L.length = 1 by omega]
  rfl
abbrev owC (d : Dep) (g3 : Nat) (v7 vT : Value) (us : List Value) (i : Nat) : List Osl := .raw 29 g3 [v7, vT] :: .sl Int 3 pI d.S v7 :: .sl Value 22 pV us vT :: rowsZ (d.T.take i) us
theorem cx_l15Own (d : Dep) (hf : DepF d) (w : World) : CTX Try.prog 61 (fun u => u = w) [.inr (uA bDep d)]
    (fun (y : Value × Value × List Value) w' => Sep w (dpL d y.1 y.2.1 y.2.2) w' ∧ y.2.2.length = d.T.length) (fun y => .inl (.agg (([y.1, y.2.1] : List Value)).toArray)) := by
  have hs := hf.s
  have ht := hf.t
  have hfr := fun i => hf.row (i := i)
  refine CTX_of Try.func61 rfl rfl rfl ?_
  refine H_weakenC (C' := Sep w []) (fun w1 h => by subst h; exact sep_start (Ext.refl _)) ?_
  have hC : UpC (Sep w []) := upC_sep
  try any_goals (first | (refine H_seq ?_; try refine H_reg ?_) | refine H_reg ?_)
  try any_goals (refine W_boxA (d := 1) (sq_stepper upC_sep) rfl rfl rfl ?_)
  try any_goals (refine Sq_allocS (d := 2) (n := 2) (by kernel_rfl) rfl (fun g2 cs2 hcs2 => ?_))
  try any_goals (first | (refine Sq_nil ?_; try refine G_then ?_) | refine G_then ?_)
  try any_goals (refine H_seq ?_)
  try any_goals (refine H_open 1 rfl (fun q u1 hq hr1 => ?_); have hg2 := hq.raw (m := 0) rfl; have hlo := hq.rawLo (m := 0) rfl; have hE := hq.ext; refine H_weakenC (C' := Sep q []) (fun w' h => sep_start h) ?_; have hC : UpC (Sep q []) := upC_sep)
  try any_goals (refine H_reg ?_)
  try any_goals (refine W_fieldUP (d := 5) (sq_stepper upC_sep) (fun w' h => UR.lift (Sep.ext h) hr1) (Proj.head _ _ _) (by kernel_rfl) rfl rfl rfl ?_)
  try any_goals (refine W_loadS (d := 6) (sq_stepper upC_sep) (by kernel_rfl) rfl rfl rfl ?_)
  try any_goals (refine Sq_ctxD (fun w1 => cx_own d.S hs w1) rfl rfl (by kernel_rfl) (fun v7 _ => ?_); refine Sq_slE 0 (v := v7) rfl (fun p7 c7 hv7 => ?_))
  try any_goals ((subst hv7; refine W_build1V (d := 8) (sq_stepper upC_sep) [.slice p7 d.S.length c7, .slice none 0 0] rfl (by kernel_rfl) rfl rfl ?_))
  try any_goals (refine Sq_allocS (d := 3) (n := 2) (by kernel_rfl) rfl (fun g3 cs3 hcs3 => ?_))
  try any_goals (refine Sq_storeRaw 0 (k := 2) (vs := [.slice p7 d.S.length c7, .slice none 0 0]) rfl ⟨trivial, trivial, trivial⟩ (by kernel_rfl) rfl rfl rfl (raw_ag (by intro x hx; simp at hx; rcases hx with rfl | rfl <;> rfl)) (by rw [hcs3]; exact Nat.le_refl _) ?_; rw [putL_all (by rw [hcs3]; rfl)])
  try any_goals (first | (refine Sq_nil ?_; try refine G_then ?_) | refine G_then ?_)
  try any_goals (refine H_seq ?_)
  try any_goals (first | (refine H_seq ?_; try refine H_reg ?_) | refine H_reg ?_)
  try any_goals (refine W_assign (d := 4) (sq_stepper upC_sep) rfl rfl rfl ?_)
  try any_goals (first | (refine Sq_nil ?_; try refine G_then ?_) | refine G_then ?_)
  try any_goals (refine H_block ?_)
  try any_goals ((refine H_loop (σ := Nat × Value × List Value) (fun x => x.1 ≤ d.T.length ∧ x.2.2.length = x.1) (fun x => [(1, .inl u1), (2, .inl (.pointer (some ⟨g2, 0, none⟩))), (3, .inl (.pointer (some ⟨g3, 0, none⟩))), (4, .inl (.int .i64 x.1))]) (fun x => Sep q (owC d g3 (.slice p7 d.S.length c7) x.2.1 x.2.2 x.1)) (fun x => d.T.length - x.1) (0, .slice none 0 0, []) ⟨Nat.zero_le _, rfl⟩ (fun a w' h => h.sub (by repeat (first | exact trivial | refine ⟨⟨_, rfl, fun _ _ _ h => h⟩, ?_⟩ | refine ⟨⟨_, rfl, fun v w _ h => (show v = _ from h).trans (congrArg (Value.int .i64) (by first | omega | (dsimp only; omega)))⟩, ?_⟩)) (fun w' h => by have h2 := (Sep.emp Value 22 pV (p := none) h).perm (L' := owC d g3 (.slice p7 d.S.length c7) (.slice none 0 0) [] 0) (by simp only [owC, List.take_zero, rowsZ, List.set_cons_zero, List.cons_append, List.nil_append]; exact (List.perm_append_comm (l₁ := [_]) (l₂ := [_, _]))); exact h2)) (fun x hx => ?_); obtain ⟨i, vT, us⟩ := x; obtain ⟨hi, hul⟩ := hx; simp only at hi hul))
  try any_goals (refine H_seq ?_)
  try any_goals (first | (refine H_seq ?_; try refine H_reg ?_) | refine H_reg ?_)
  try any_goals (refine W_move (d := 9) (sq_stepper upC_sep) rfl rfl rfl ?_)
  try any_goals (refine W_fieldUP (d := 10) (sq_stepper upC_sep) (fun w' h => UR.lift (Sep.ext h) hr1) (Proj.tail _ _ (Proj.head _ _ _)) (by kernel_rfl) rfl rfl rfl ?_)
  try any_goals (refine W_loadS (d := 11) (sq_stepper upC_sep) (by kernel_rfl) rfl rfl rfl ?_)
  try any_goals (first | refine W_len (d := 12) (sq_stepper upC_sep) (by kernel_rfl) rfl rfl rfl ?_ | refine W_lenStr (d := 12) (sq_stepper upC_sep) (by kernel_rfl) rfl rfl rfl ?_)
  try any_goals (first | refine W_cmp (d := 13) (sq_stepper upC_sep) rfl rfl rfl rfl rfl ?_ | refine W_strcmp (d := 13) (sq_stepper upC_sep) rfl rfl rfl rfl rfl ?_)
  try any_goals (first | (refine Sq_nil ?_; try refine G_then ?_) | refine G_then ?_)
  try any_goals (first | refine H_condT rfl ?_ | refine H_condF rfl (Wt.un 0 ?_) | (refine H_cond _ rfl (fun hq => ?_) (fun hq => Wt.un 0 ?_) <;> (try simp only [hqs, reduceCtorEq] at hq)))
  try any_goals (refine H_skip ?_)
  try any_goals (refine G_hold 1 ?_)
  try any_goals (refine Wt.out 0 ?_)
  try any_goals (refine H_exit ?_)
  repeat (any_goals (first | refine G_exit_then ?_ | refine G_exit_here ?_ | refine G_exit_far rfl ?_))
  try any_goals (refine G_hold 2 ?_)
  try any_goals (refine Wt.out 1 ?_)
  try any_goals (refine G_then ?_)
  try any_goals (refine H_seq ?_)
  try any_goals (refine H_block ?_)
  try any_goals (refine H_pinR 5 (fun wr hS => ?_))
  try any_goals (refine H_drawR [0, 1, 2, 3, 4, 5, 6, 7, 8] [9, 10, 11] (by kernel_rfl) (by kernel_rfl) (upC_ext _) ?_)
  try any_goals (first | refine W_fieldG (d := 16) (wkR_stepper (upC_ext _)) (Proj.tail _ _ (Proj.head _ _ _)) (by kernel_rfl) rfl rfl rfl ?_ | refine W_fieldC (d := 16) (wkR_stepper (upC_ext _)) (off := 1) (by kernel_rfl) rfl rfl rfl ?_)
  try any_goals (refine W_loadO (d := 17) (wkR_stepper (upC_ext _)) (by kernel_rfl) rfl rfl rfl (fun w' h => (Blk.ext (hS.raw (m := 0) rfl) h).cell rfl) ?_)
  try any_goals (refine W_fieldUP (d := 18) (wkR_stepper (upC_ext _)) (fun w' h => UR.lift (hS.ext.trans h) hr1) (Proj.tail _ _ (Proj.head _ _ _)) (by kernel_rfl) rfl rfl rfl ?_)
  try any_goals (refine W_loadS (d := 19) (wkR_stepper (upC_ext _)) (by kernel_rfl) rfl rfl rfl ?_)
  try any_goals (refine W_move (d := 20) (wkR_stepper (upC_ext _)) rfl rfl rfl ?_)
  try any_goals (refine W_index (d := 21) (wkR_stepper (upC_ext _)) (by kernel_rfl) rfl rfl rfl rfl (by first | omega | (dsimp only; omega)) ?_)
  try any_goals (refine W_loadS (d := 22) (wkR_stepper (upC_ext _)) (by kernel_rfl) rfl rfl rfl ?_)
  try any_goals (refine WR_ctx0 (cx_own (ix d.T i) (by have := hfr i (by omega) (by omega); omega)) rfl rfl (by kernel_rfl) ?_)
  try any_goals (refine WR_one (e := 22) (by kernel_rfl) rfl rfl 23 (List.Mem.head _) (List.Mem.head _) (fun y w h => sl_one h) (by kernel_rfl) ?_)
  try any_goals (refine WR_nil ?_)
  try any_goals (refine SqR_openI 23 hS (List.Mem.tail _ (List.Mem.head _)) 24 (List.Mem.head _) (List.Mem.head _) (fun y w h => sl_one h) (fun v23 _ => ?_))
  try any_goals (refine Sq_appS (d := 25) 3 (Ψ := pV) rfl ⟨trivial, trivial, trivial, trivial, avAll_rows⟩ (by kernel_rfl) (by kernel_rfl) rfl rfl rfl ⟨by simp only [List.length_cons, List.length_nil]; omega, by simp⟩ (fun vb => ?_))
  try any_goals (first | refine W_fieldG (d := 26) (sq_stepper upC_sep) (Proj.tail _ _ (Proj.head _ _ _)) (by kernel_rfl) rfl rfl rfl ?_ | refine W_fieldC (d := 26) (sq_stepper upC_sep) (off := 1) (by kernel_rfl) rfl rfl rfl ?_)
  try any_goals (refine Sq_slV 3 (xs := us ++ [v23]) (e := 22) (Ψ := pV) (v := vb) rfl (fun hvb => ?_); refine Sq_storeRaw 1 (k := 1) (vs := [vb]) (cs := [.slice p7 d.S.length c7, vT]) (b := g3) (e := 29) rfl ⟨trivial, trivial, trivial, trivial, avAll_rows⟩ (by kernel_rfl) rfl rfl rfl (raw_v hvb) (by simp) ?_)
  try any_goals (refine Sq_nil ?_)
  repeat (any_goals (first | refine G_exit_then ?_ | refine G_exit_here ?_ | refine G_exit_far rfl ?_ | refine G_normal_block ?_))
  try any_goals (refine G_then ?_)
  try any_goals (refine H_reg ?_)
  try any_goals (refine W_move (d := 14) (sq_stepper upC_sep) rfl rfl rfl ?_)
  try any_goals (refine W_ar (d := 15) (sq_stepper upC_sep) rfl rfl rfl rfl rfl (by first | omega | (dsimp only; omega)) ?_)
  try any_goals (refine W_assign (d := 4) (sq_stepper upC_sep) rfl rfl rfl ?_)
  try any_goals (refine Sq_nil ?_)
  try any_goals (refine G_again (i + 1, vb, us ++ [v23]) ⟨by simp only; omega, by simp only [List.length_append, List.length_cons, List.length_nil]; omega⟩ (by simp only; omega) (by repeat (first | exact trivial | refine ⟨⟨_, rfl, fun _ _ _ h => h⟩, ?_⟩ | refine ⟨⟨_, rfl, fun v w _ h => (show v = _ from h).trans (congrArg (Value.int .i64) (by first | omega | (dsimp only; omega)))⟩, ?_⟩)) (fun w' h => ?_))
  try any_goals (refine Wt.out 2 ?_)
  repeat (any_goals (first | refine G_exit_then ?_ | refine G_exit_here ?_ | refine G_exit_far rfl ?_ | refine G_normal_block ?_))
  try any_goals (refine G_then ?_)
  try any_goals (refine H_seq ?_)
  try any_goals (refine H_weakenC (C' := Sep w (.raw 29 g2 cs2 :: owC d g3 (.slice p7 d.S.length c7) vT us i)) (fun w' h => Sep.base hE hg2 hlo h) ?_)
  try any_goals (refine H_reg ?_)
  try any_goals (refine W_loadRawA (d := 27) 1 (sq_stepper upC_sep) rfl (by kernel_rfl) rfl rfl rfl rfl ?_)
  try any_goals (refine Sq_slV 3 (xs := us) (e := 22) (Ψ := pV) (v := vT) rfl (fun hvT => ?_); refine Sq_storeRaw 0 (k := 2) (vs := [.slice p7 d.S.length c7, vT]) (cs := cs2) (b := g2) (e := 29) rfl ⟨trivial, trivial, trivial, trivial, avAll_rows⟩ (by kernel_rfl) rfl rfl rfl (raw_ag (by intro x hx; simp at hx; rcases hx with rfl | rfl; rfl; exact hvT)) (by rw [hcs2]; exact Nat.le_refl _) ?_; rw [putL_all (by rw [hcs2]; rfl)])
  try any_goals (first | (refine Sq_nil ?_; try refine G_then ?_) | refine G_then ?_)
  try any_goals (refine H_ret ?_)
  repeat (any_goals (first | refine G_ret_then ?_ | refine G_ret_block ?_))
  all_goals (try dsimp only)
  all_goals first
    | (simp only [owC, List.map_cons, List.map_nil, List.cons_append, List.nil_append, List.set_cons_succ, List.set_cons_zero] at h ⊢
       have e1 : putL [Value.slice p7 d.S.length c7, vT] 1 [vb] = [.slice p7 d.S.length c7, vb] := rfl
       simp only [Nat.zero_add] at h
       rw [e1] at h
       have h2 := h.perm (L' := (.raw _ g3 [.slice p7 d.S.length c7, vb] :: .sl Int _ pI d.S (.slice p7 d.S.length c7) :: .sl Value _ pV (us ++ [v23]) vb :: (rowsZ (d.T.take i) us ++ [.sl Int _ pI (ix d.T i) v23]))) (by
         exact (List.perm_append_singleton (.sl Int _ pI (ix d.T i) v23) (.raw _ g3 [.slice p7 d.S.length c7, vb] :: .sl Int _ pI d.S (.slice p7 d.S.length c7) :: .sl Value _ pV (us ++ [v23]) vb :: rowsZ (d.T.take i) us)).symm)
       rw [← rowsZ_snoc (by rw [List.length_take]; omega), show d.T.take i ++ [ix d.T i] = d.T.take (i + 1) by rw [List.take_add_one, List.getElem?_eq_getElem (by omega), ix_elem (by omega)]; rfl] at h2
       exact h2)
    | (obtain rfl : i = d.T.length := (by omega)
       refine RcellX 0 (b := g2) (cs := [.slice p7 d.S.length c7, vT]) (k := 2) rfl (by kernel_rfl) rfl rfl rfl (fun w' hc => ⟨(_, vT, us), ⟨?_, hul⟩, rfl⟩)
       have h2 := Sep.drop (Sep.drop hc)
       rw [List.take_of_length_le (Nat.le_refl _)] at h2
       exact h2)
    | trace_state
theorem ct_l15Take (d : Dep) (v : Int) (hd : DvI d) : CT Try.prog 48 [.inr (uA bDep d), .inl (.int .i64 v)] (.inr (uT [.inr (uA bDep (tkD d v)), .inl (.bool (tkB d.T v))])) := by
  have hb := plI_bd (T := d.T) (v := v)
  have hf := hd.f
  have hpl := ct_l15Track d v hf
  refine CT_of Try.func48 rfl rfl rfl (fun w => ?_)
  refine H_weakenC (C' := Sep w []) (fun w1 h => sep_start h) ?_
  have hC : UpC (Sep w []) := upC_sep
  by_cases hp : plI d.T v < 0
  · rw [if_pos hp] at hpl
    try any_goals (first | (refine H_seq ?_; try refine H_reg ?_) | refine H_reg ?_)
    try any_goals (refine W_boxA (d := 2) (sq_stepper upC_sep) rfl rfl rfl ?_)
    try any_goals (refine Sq_allocZ (d := 4) (n := 2) [.slice none 0 0, .slice none 0 0] (by kernel_rfl) (by kernel_rfl) rfl (fun g4 => ?_); have hC : UpC (Sep w [.raw 29 g4 [.slice none 0 0, .slice none 0 0]]) := upC_sep)
    try any_goals (refine W_assign (d := 5) (sq_stepper upC_sep) rfl rfl rfl ?_)
    try any_goals (first | (refine Sq_nil ?_; try refine G_then ?_) | refine G_then ?_)
    try any_goals (first | (refine H_seq ?_; try refine H_reg ?_) | refine H_reg ?_)
    try any_goals (refine W_loadA (d := 10) (sq_stepper upC_sep) (by kernel_rfl) rfl rfl rfl ?_)
    try any_goals (refine W_move (d := 11) (sq_stepper upC_sep) rfl rfl rfl ?_)
    try any_goals (refine W_ct (d := 12) (sq_stepper upC_sep) (hpl) rfl rfl rfl (by kernel_rfl) ?_)
    try any_goals (refine W_move (d := 9) (sq_stepper upC_sep) rfl rfl rfl ?_)
    try any_goals (refine W_extract (d := 13) (sq_stepper upC_sep) rfl rfl rfl rfl ?_)
    try any_goals (refine W_extract (d := 14) (sq_stepper upC_sep) rfl rfl rfl rfl ?_)
    try any_goals (refine W_assign (d := 6) (sq_stepper upC_sep) rfl rfl rfl ?_)
    try any_goals (refine W_assign (d := 7) (sq_stepper upC_sep) rfl rfl rfl ?_)
    try any_goals (first | (refine Sq_nil ?_; try refine G_then ?_) | refine G_then ?_)
    try any_goals (refine H_seq ?_)
    try any_goals (first | (refine H_seq ?_; try refine H_reg ?_) | refine H_reg ?_)
    try any_goals (refine W_move (d := 15) (sq_stepper upC_sep) rfl rfl rfl ?_)
    try any_goals (first | refine W_cmp (d := 16) (sq_stepper upC_sep) rfl rfl rfl rfl rfl ?_ | refine W_strcmp (d := 16) (sq_stepper upC_sep) rfl rfl rfl rfl rfl ?_)
    try any_goals (refine W_move (d := 17) (sq_stepper upC_sep) rfl rfl rfl ?_)
    try any_goals (first | refine W_gT (d := 18) (sq_stepper upC_sep) _ rfl rfl ?_ | refine W_gF (d := 18) (sq_stepper upC_sep) _ rfl rfl ?_ | (refine W_splitG (sq_stepper upC_sep) _ rfl _ rfl (fun hq => ?_) (fun hq => ?_) <;> ((try simp only [hqs, reduceCtorEq] at hq); try (have hq' := hq; clear hq))))
    try any_goals (first | refine W_skip (d := 18) (sq_stepper upC_sep) rfl rfl ?_ | refine W_move (d := 18) (sq_stepper upC_sep) rfl rfl rfl ?_)
    try any_goals (first | refine W_skip (d := 19) (sq_stepper upC_sep) rfl rfl ?_ | refine W_fieldG (d := 19) (sq_stepper upC_sep) (Proj.tail _ _ (Proj.head _ _ _)) (by kernel_rfl) rfl rfl rfl ?_ | refine W_fieldC (d := 19) (sq_stepper upC_sep) (off := 1) (by kernel_rfl) rfl rfl rfl ?_)
    try any_goals (first | refine W_skip (d := 20) (sq_stepper upC_sep) rfl rfl ?_ | refine W_loadS (d := 20) (sq_stepper upC_sep) (by kernel_rfl) rfl rfl rfl ?_)
    try any_goals (first | refine W_skip (d := 21) (sq_stepper upC_sep) rfl rfl ?_ | refine W_move (d := 21) (sq_stepper upC_sep) rfl rfl rfl ?_)
    try any_goals (first | refine W_skip (d := 22) (sq_stepper upC_sep) rfl rfl ?_ | refine W_index (d := 22) (sq_stepper upC_sep) (by kernel_rfl) rfl rfl rfl rfl (by first | omega | (dsimp only; omega)) ?_)
    try any_goals (first | refine W_skip (d := 23) (sq_stepper upC_sep) rfl rfl ?_ | refine W_loadS (d := 23) (sq_stepper upC_sep) (by kernel_rfl) rfl rfl rfl ?_)
    try any_goals (first | refine W_skip (d := 24) (sq_stepper upC_sep) rfl rfl ?_ | refine W_len (d := 24) (sq_stepper upC_sep) (by kernel_rfl) rfl rfl rfl ?_ | refine W_lenStr (d := 24) (sq_stepper upC_sep) (by kernel_rfl) rfl rfl rfl ?_)
    try any_goals (first | refine W_skip (d := 25) (sq_stepper upC_sep) rfl rfl ?_ | refine W_ar (d := 25) (sq_stepper upC_sep) rfl rfl rfl rfl rfl (by first | omega | (dsimp only; omega)) ?_)
    try any_goals (first | refine W_skip (d := 26) (sq_stepper upC_sep) rfl rfl ?_ | refine W_cmp (d := 26) (sq_stepper upC_sep) rfl rfl rfl rfl rfl ?_ | refine W_neqStr (d := 26) (sq_stepper upC_sep) rfl rfl rfl rfl ?_ | refine W_neqB (d := 26) (sq_stepper upC_sep) rfl rfl Try.underlying4 rfl rfl ?_)
    try any_goals (first | refine W_pickT (d := 27) (sq_stepper upC_sep) rfl rfl rfl rfl ?_ | refine W_pickF (d := 27) (sq_stepper upC_sep) rfl rfl rfl rfl ?_)
    try any_goals (first | (refine Sq_nil ?_; try refine G_then ?_) | refine G_then ?_)
    try any_goals (first | refine H_condT rfl ?_ | refine H_condF rfl (Wt.un 0 ?_) | (refine H_cond _ rfl (fun hq => ?_) (fun hq => Wt.un 0 ?_) <;> (try simp only [hqs, reduceCtorEq] at hq)))
    try any_goals (first | ((exfalso; omega)) | skip)
    try any_goals (refine H_seq ?_)
    try any_goals (refine H_weakenC (C' := Sep w [.sl Dep 29 bDep [⟨[], []⟩] (.slice (some ⟨g4, 0, none⟩) 1 1)]) (fun w' h => Sep.asL (m := 0) h rfl dep_nil) ?_)
    try any_goals (refine H_reg ?_)
    try any_goals (refine W_loadA (d := 28) (sq_stepper upC_sep) (by kernel_rfl) rfl rfl rfl ?_)
    try any_goals (refine Sq_storeL 0 d rfl ⟨av_dep, trivial⟩ (by kernel_rfl) rfl rfl ?_)
    try any_goals (refine W_assign (d := 5) (sq_stepper upC_sep) rfl rfl rfl ?_)
    try any_goals (first | (refine Sq_nil ?_; try refine G_then ?_) | refine G_then ?_)
    try any_goals (refine H_ret ?_)
    repeat (any_goals (first | refine G_ret_then ?_ | refine G_ret_block ?_))
    try any_goals (refine G_hold 1 ?_)
    try any_goals (refine Wt.out 0 ?_)
    try any_goals (refine H_skip ?_)
    try any_goals (refine Wt.out 1 ?_)
    try any_goals (refine G_then ?_)
    try any_goals (first | (refine H_seq ?_; try refine H_reg ?_) | refine H_reg ?_)
    try any_goals (refine W_loadA (d := 29) (sq_stepper upC_sep) (by kernel_rfl) rfl rfl rfl ?_)
    try any_goals (fail)
    try any_goals (refine Sq_alloc (d := 8) (by kernel_rfl) hC rfl ?_)
    try any_goals (first | refine Pend_storeA (by kernel_rfl) hC rfl rfl ?_ | refine Pend_storeI (by kernel_rfl) hC rfl rfl ?_)
    try any_goals (first | (refine Sq_nil ?_; try refine G_then ?_) | refine G_then ?_)
    try any_goals (refine H_seq ?_)
    try any_goals (refine H_draw' (by kernel_rfl) upC_sep ?_)
    try any_goals (first | refine W_fieldG (d := 31) wk_stepper (Proj.tail _ _ (Proj.head _ _ _)) (by kernel_rfl) rfl rfl rfl ?_ | refine W_fieldC (d := 31) wk_stepper (off := 1) (by kernel_rfl) rfl rfl rfl ?_)
    try any_goals (refine W_loadS (d := 32) wk_stepper (by kernel_rfl) rfl rfl rfl ?_)
    try any_goals (refine W_move (d := 33) wk_stepper rfl rfl rfl ?_)
    try any_goals (first | refine W_fieldG (d := 34) wk_stepper (Proj.tail _ _ (Proj.head _ _ _)) (by kernel_rfl) rfl rfl rfl ?_ | refine W_fieldC (d := 34) wk_stepper (off := 1) (by kernel_rfl) rfl rfl rfl ?_)
    try any_goals (refine W_loadS (d := 35) wk_stepper (by kernel_rfl) rfl rfl rfl ?_)
    try any_goals (refine W_move (d := 36) wk_stepper rfl rfl rfl ?_)
    try any_goals (refine W_index (d := 37) wk_stepper (by kernel_rfl) rfl rfl rfl rfl (by first | omega | (dsimp only; omega)) ?_)
    try any_goals (refine W_loadS (d := 38) wk_stepper (by kernel_rfl) rfl rfl rfl ?_)
    try any_goals (refine W_move (d := 39) wk_stepper rfl rfl rfl ?_)
    try any_goals (refine W_slice (d := 40) wk_stepper (by kernel_rfl) rfl rfl rfl rfl rfl (by first | omega | (dsimp only; omega)) ?_)
    try any_goals (refine W_index (d := 41) wk_stepper (by kernel_rfl) rfl rfl rfl rfl (by first | omega | (dsimp only; omega)) ?_)
    try any_goals (refine Wk_none (by kernel_rfl) (by kernel_rfl) ?_)
    try any_goals (fail)
    try any_goals (first | (refine Sq_nil ?_; try refine G_then ?_) | refine G_then ?_)
    try any_goals (first | (refine H_seq ?_; try refine H_reg ?_) | refine H_reg ?_)
    try any_goals (refine W_loadA (d := 42) (sq_stepper upC_sep) (by kernel_rfl) rfl rfl rfl ?_)
    try any_goals (fail)
    try any_goals (refine W_assign (d := 5) (sq_stepper upC_sep) rfl rfl rfl ?_)
    try any_goals (first | (refine Sq_nil ?_; try refine G_then ?_) | refine G_then ?_)
    try any_goals (refine H_ret ?_)
    repeat (any_goals (first | refine G_ret_then ?_ | refine G_ret_block ?_))
    all_goals first
      | (have htb := tkB_n (T := d.T) (v := v) (by omega)
         exact RL_c1 0 rfl (by kernel_rfl) (fun _ h => h.ext) rfl rfl rfl (tkD_n htb).symm (fun v w' _ hv => by rw [htb]; exact hv))
      | trace_state
  · rw [if_neg hp] at hpl
    have hk := plK_bd (T := d.T) (v := v) (by omega)
    have hi : 0 ≤ plI d.T v ∧ plI d.T v < (d.T.length : Int) := ⟨by omega, hb.2⟩
    have hrb := hd.row' hi
    try any_goals (first | (refine H_seq ?_; try refine H_reg ?_) | refine H_reg ?_)
    try any_goals (refine W_boxA (d := 2) (sq_stepper upC_sep) rfl rfl rfl ?_)
    try any_goals (refine Sq_allocZ (d := 4) (n := 2) [.slice none 0 0, .slice none 0 0] (by kernel_rfl) (by kernel_rfl) rfl (fun g4 => ?_); have hC : UpC (Sep w [.raw 29 g4 [.slice none 0 0, .slice none 0 0]]) := upC_sep)
    try any_goals (refine W_assign (d := 5) (sq_stepper upC_sep) rfl rfl rfl ?_)
    try any_goals (first | (refine Sq_nil ?_; try refine G_then ?_) | refine G_then ?_)
    try any_goals (first | (refine H_seq ?_; try refine H_reg ?_) | refine H_reg ?_)
    try any_goals (refine W_loadA (d := 10) (sq_stepper upC_sep) (by kernel_rfl) rfl rfl rfl ?_)
    try any_goals (refine W_move (d := 11) (sq_stepper upC_sep) rfl rfl rfl ?_)
    try any_goals (refine W_ct (d := 12) (sq_stepper upC_sep) (hpl) rfl rfl rfl (by kernel_rfl) ?_)
    try any_goals (refine W_move (d := 9) (sq_stepper upC_sep) rfl rfl rfl ?_)
    try any_goals (refine W_extract (d := 13) (sq_stepper upC_sep) rfl rfl rfl rfl ?_)
    try any_goals (refine W_extract (d := 14) (sq_stepper upC_sep) rfl rfl rfl rfl ?_)
    try any_goals (refine W_assign (d := 6) (sq_stepper upC_sep) rfl rfl rfl ?_)
    try any_goals (refine W_assign (d := 7) (sq_stepper upC_sep) rfl rfl rfl ?_)
    try any_goals (first | (refine Sq_nil ?_; try refine G_then ?_) | refine G_then ?_)
    try any_goals (refine H_seq ?_)
    try any_goals (first | (refine H_seq ?_; try refine H_reg ?_) | refine H_reg ?_)
    try any_goals (refine W_move (d := 15) (sq_stepper upC_sep) rfl rfl rfl ?_)
    try any_goals (first | refine W_cmp (d := 16) (sq_stepper upC_sep) rfl rfl rfl rfl rfl ?_ | refine W_strcmp (d := 16) (sq_stepper upC_sep) rfl rfl rfl rfl rfl ?_)
    try any_goals (refine W_move (d := 17) (sq_stepper upC_sep) rfl rfl rfl ?_)
    try any_goals (first | refine W_gT (d := 18) (sq_stepper upC_sep) _ rfl rfl ?_ | refine W_gF (d := 18) (sq_stepper upC_sep) _ rfl rfl ?_ | (refine W_splitG (sq_stepper upC_sep) _ rfl _ rfl (fun hq => ?_) (fun hq => ?_) <;> ((try simp only [hqs, reduceCtorEq] at hq); try (have hq' := hq; clear hq))))
    try any_goals (first | refine W_skip (d := 18) (sq_stepper upC_sep) rfl rfl ?_ | refine W_move (d := 18) (sq_stepper upC_sep) rfl rfl rfl ?_)
    try any_goals (first | refine W_skip (d := 19) (sq_stepper upC_sep) rfl rfl ?_ | refine W_fieldG (d := 19) (sq_stepper upC_sep) (Proj.tail _ _ (Proj.head _ _ _)) (by kernel_rfl) rfl rfl rfl ?_ | refine W_fieldC (d := 19) (sq_stepper upC_sep) (off := 1) (by kernel_rfl) rfl rfl rfl ?_)
    try any_goals (first | refine W_skip (d := 20) (sq_stepper upC_sep) rfl rfl ?_ | refine W_loadS (d := 20) (sq_stepper upC_sep) (by kernel_rfl) rfl rfl rfl ?_)
    try any_goals (first | refine W_skip (d := 21) (sq_stepper upC_sep) rfl rfl ?_ | refine W_move (d := 21) (sq_stepper upC_sep) rfl rfl rfl ?_)
    try any_goals (first | refine W_skip (d := 22) (sq_stepper upC_sep) rfl rfl ?_ | refine W_index (d := 22) (sq_stepper upC_sep) (by kernel_rfl) rfl rfl rfl rfl (by first | omega | (dsimp only; omega)) ?_)
    try any_goals (first | refine W_skip (d := 23) (sq_stepper upC_sep) rfl rfl ?_ | refine W_loadS (d := 23) (sq_stepper upC_sep) (by kernel_rfl) rfl rfl rfl ?_)
    try any_goals (first | refine W_skip (d := 24) (sq_stepper upC_sep) rfl rfl ?_ | refine W_len (d := 24) (sq_stepper upC_sep) (by kernel_rfl) rfl rfl rfl ?_ | refine W_lenStr (d := 24) (sq_stepper upC_sep) (by kernel_rfl) rfl rfl rfl ?_)
    try any_goals (first | refine W_skip (d := 25) (sq_stepper upC_sep) rfl rfl ?_ | refine W_ar (d := 25) (sq_stepper upC_sep) rfl rfl rfl rfl rfl (by first | omega | (dsimp only; omega)) ?_)
    try any_goals (first | refine W_skip (d := 26) (sq_stepper upC_sep) rfl rfl ?_ | refine W_cmp (d := 26) (sq_stepper upC_sep) rfl rfl rfl rfl rfl ?_ | refine W_neqStr (d := 26) (sq_stepper upC_sep) rfl rfl rfl rfl ?_ | refine W_neqB (d := 26) (sq_stepper upC_sep) rfl rfl Try.underlying4 rfl rfl ?_)
    try any_goals (first | refine W_pickT (d := 27) (sq_stepper upC_sep) rfl rfl rfl rfl ?_ | refine W_pickF (d := 27) (sq_stepper upC_sep) rfl rfl rfl rfl ?_)
    try any_goals (first | (refine Sq_nil ?_; try refine G_then ?_) | refine G_then ?_)
    try any_goals (first | refine H_condT rfl ?_ | refine H_condF rfl (Wt.un 0 ?_) | (refine H_cond _ rfl (fun hq => ?_) (fun hq => Wt.un 0 ?_) <;> (try simp only [hqs, reduceCtorEq] at hq)))
    try any_goals (refine H_seq ?_)
    try any_goals (refine H_weakenC (C' := Sep w [.sl Dep 29 bDep [⟨[], []⟩] (.slice (some ⟨g4, 0, none⟩) 1 1)]) (fun w' h => Sep.asL (m := 0) h rfl dep_nil) ?_)
    try any_goals (refine H_reg ?_)
    try any_goals (refine W_loadA (d := 28) (sq_stepper upC_sep) (by kernel_rfl) rfl rfl rfl ?_)
    try any_goals (refine Sq_storeL 0 d rfl ⟨av_dep, trivial⟩ (by kernel_rfl) rfl rfl ?_)
    try any_goals (refine W_assign (d := 5) (sq_stepper upC_sep) rfl rfl rfl ?_)
    try any_goals (first | (refine Sq_nil ?_; try refine G_then ?_) | refine G_then ?_)
    try any_goals (refine H_ret ?_)
    repeat (any_goals (first | refine G_ret_then ?_ | refine G_ret_block ?_))
    try any_goals (refine G_hold 1 ?_)
    try any_goals (refine Wt.out 0 ?_)
    try any_goals (refine H_skip ?_)
    try any_goals (refine Wt.out 1 ?_)
    try any_goals (refine G_then ?_)
    try any_goals (first | (refine H_seq ?_; try refine H_reg ?_) | refine H_reg ?_)
    try any_goals (refine W_loadA (d := 29) (sq_stepper upC_sep) (by kernel_rfl) rfl rfl rfl ?_)
    try any_goals ((refine Sq_ctxD (fun w1 => cx_l15Own d hf w1) rfl rfl (by kernel_rfl) (fun y hl => ?_); obtain ⟨vS, vT, vs⟩ := y; have hl : vs.length = d.T.length := hl))
    try any_goals (refine Sq_allocS (d := 8) (n := 2) (by kernel_rfl) rfl (fun g8 cs8 hcs8 => ?_))
    try any_goals (refine Sq_cls (fun wq hq => ?_); have hone := dp_one (Sep.drop hq); refine Sq_storeRaw 0 (k := 2) (vs := [vS, vT]) rfl ⟨trivial, avAll_dp ⟨trivial, trivial⟩⟩ (by kernel_rfl) rfl rfl rfl (raw_ag hone) (by rw [hcs8]; exact Nat.le_refl _) ?_; rw [putL_all (by rw [hcs8]; rfl), List.set_cons_zero]; refine Sq_weaken (C' := Sep w (dpL d vS vT vs ++ [.raw 29 g8 [vS, vT], .raw 29 g4 [.slice none 0 0, .slice none 0 0]])) (fun w' h => h.perm List.perm_middle.symm) ?_)
    try any_goals (first | (refine Sq_nil ?_; try refine G_then ?_) | refine G_then ?_)
    try any_goals (refine H_seq ?_)
    try any_goals (refine H_draw' (by kernel_rfl) upC_sep ?_)
    try any_goals (first | refine W_fieldG (d := 31) wk_stepper (Proj.tail _ _ (Proj.head _ _ _)) (by kernel_rfl) rfl rfl rfl ?_ | refine W_fieldC (d := 31) wk_stepper (off := 1) (by kernel_rfl) rfl rfl rfl ?_)
    try any_goals (refine W_loadRaw (d := 32) (dpL d vS vT vs).length wk_stepper get_mid (by kernel_rfl) rfl rfl rfl rfl ?_)
    try any_goals (refine W_move (d := 33) wk_stepper rfl rfl rfl ?_)
    try any_goals (first | refine W_fieldG (d := 34) wk_stepper (Proj.tail _ _ (Proj.head _ _ _)) (by kernel_rfl) rfl rfl rfl ?_ | refine W_fieldC (d := 34) wk_stepper (off := 1) (by kernel_rfl) rfl rfl rfl ?_)
    try any_goals (refine W_loadRaw (d := 35) (dpL d vS vT vs).length wk_stepper get_mid (by kernel_rfl) rfl rfl rfl rfl ?_)
    try any_goals (refine W_move (d := 36) wk_stepper rfl rfl rfl ?_)
    try any_goals (refine W_idxS1 (d := 37) 1 wk_stepper rfl rfl (by kernel_rfl) rfl rfl rfl rfl ⟨by omega, by omega⟩ ?_)
    try any_goals (refine W_loadSV (d := 38) 1 wk_stepper rfl ⟨by omega, by omega⟩ (by kernel_rfl) rfl rfl rfl ?_)
    try any_goals (refine W_move (d := 39) wk_stepper rfl rfl rfl ?_)
    try any_goals (refine W_sliceSVTo (d := 40) ((plI d.T v).toNat + 2) wk_stepper (dpL_rowI hl hi) (by omega) (by kernel_rfl) rfl rfl rfl rfl ⟨by omega, by omega⟩ ?_)
    try any_goals (refine W_idxS1 (d := 41) 1 wk_stepper rfl rfl (by kernel_rfl) rfl rfl rfl rfl ⟨by omega, by omega⟩ ?_)
    try any_goals (refine Wk_none (by kernel_rfl) (by kernel_rfl) ?_)
    try any_goals (refine Sq_subE ((plI d.T v).toNat + 2) (dpL_rowI hl hi) (by omega) (fun hsub => ?_); refine Sq_storeSV 1 rfl (avAll_dp (L0 := [Osl.raw _ _ _, Osl.raw _ _ _]) ⟨trivial, trivial, trivial⟩) ⟨by omega, by omega⟩ (by kernel_rfl) (hsub _ _) rfl rfl ?_; refine Sq_weaken (C' := Sep w (dpL ⟨d.S, d.T.set (plI d.T v).toNat ((ix d.T (plI d.T v)).take (plK d.T v).toNat)⟩ vS vT (vs.set (plI d.T v).toNat (subV (ix vs (plI d.T v)) 0 (plK d.T v))) ++ [.raw 29 g8 [vS, vT], .raw 29 g4 [.slice none 0 0, .slice none 0 0]])) (fun w' hc => by have h2 := Sep.cut hc (m := (plI d.T v).toNat + 2) (k := plK d.T v) (hm_far (dpL_rowI hl hi) (by omega)) hk; rw [dpL_set hl hi] at h2; exact h2) ?_)
    try any_goals (first | (refine Sq_nil ?_; try refine G_then ?_) | refine G_then ?_)
    try any_goals (first | (refine H_seq ?_; try refine H_reg ?_) | refine H_reg ?_)
    try any_goals (refine W_loadRawA (d := 42) (dpL ⟨d.S, d.T.set (plI d.T v).toNat ((ix d.T (plI d.T v)).take (plK d.T v).toNat)⟩ vS vT (vs.set (plI d.T v).toNat (subV (ix vs (plI d.T v)) 0 (plK d.T v)))).length (sq_stepper upC_sep) get_mid (by kernel_rfl) rfl rfl rfl rfl ?_)
    try any_goals (refine Sq_storeRaw ((dpL ⟨d.S, d.T.set (plI d.T v).toNat ((ix d.T (plI d.T v)).take (plK d.T v).toNat)⟩ vS vT (vs.set (plI d.T v).toNat (subV (ix vs (plI d.T v)) 0 (plK d.T v)))).length + 1) (k := 2) (vs := [vS, vT]) (cs := [.slice none 0 0, .slice none 0 0]) (b := g4) (e := 29) (by simp) (avAll_dp (L0 := [Osl.raw _ _ _, Osl.raw _ _ _]) ⟨trivial, trivial, trivial⟩) (by kernel_rfl) rfl rfl rfl (raw_ag hone) (Nat.le_refl _) ?_)
    try any_goals (refine W_assign (d := 5) (sq_stepper upC_sep) rfl rfl rfl ?_)
    try any_goals (first | (refine Sq_nil ?_; try refine G_then ?_) | refine G_then ?_)
    try any_goals (refine H_ret ?_)
    repeat (any_goals (first | refine G_ret_then ?_ | refine G_ret_block ?_))
    all_goals first
      | (have htb := tkB_n (T := d.T) (v := v) (by omega)
         exact RL_c1 0 rfl (by kernel_rfl) (fun _ h => h.ext) rfl rfl rfl (tkD_n htb).symm (fun v w' _ hv => by rw [htb]; exact hv))
      | (have htb := tkB_y (T := d.T) (v := v) ⟨by omega, by omega⟩
         refine R_c1 ((dpL ⟨d.S, d.T.set (plI d.T v).toNat ((ix d.T (plI d.T v)).take (plK d.T v).toNat)⟩ vS vT (vs.set (plI d.T v).toNat (subV (ix vs (plI d.T v)) 0 (plK d.T v)))).length + 1) (b := g4) (e := 29) (cs := [vS, vT]) (k := 2) rfl (by kernel_rfl) (fun _ h => h.ext) rfl rfl (hm_set (o := Osl.raw 29 g4 [.slice none 0 0, .slice none 0 0]) (by simp)) rfl (fun w' hc => ?_) (fun v w' _ hv => by rw [htb]; exact hv)
         rw [set_two] at hc
         rw [tkD_y htb]
         exact Sep.dep hc (by simp only [tkT, pkT, List.length_set]; exact hl))
      | trace_state
theorem ct_l15Park (d : Dep) (v tr : Int) (hd : DvI d) : CT Try.prog 52 [.inr (uA bDep d), .inl (.int .i64 v), .inl (.int .i64 tr)] (.inr (uT [.inr (uA bDep (pkD d v tr)), .inl (.bool (pkB d v tr))])) := by
  have hb := plI_bd (T := d.T) (v := v)
  have hf := hd.f
  have hdl := hd.l
  have hdn := hd.n
  have hpl := ct_l15Track d v hf
  refine CT_of Try.func52 rfl rfl rfl (fun w => ?_)
  refine H_weakenC (C' := Sep w []) (fun w1 h => sep_start h) ?_
  have hC : UpC (Sep w []) := upC_sep
  try any_goals (first | (refine H_seq ?_; try refine H_reg ?_) | refine H_reg ?_)
  try any_goals (refine W_boxA (d := 3) (sq_stepper upC_sep) rfl rfl rfl ?_)
  try any_goals (refine Sq_allocZ (d := 6) (n := 2) [.slice none 0 0, .slice none 0 0] (by kernel_rfl) (by kernel_rfl) rfl (fun g6 => ?_); have hC : UpC (Sep w [.raw 29 g6 [.slice none 0 0, .slice none 0 0]]) := upC_sep)
  try any_goals (refine W_assign (d := 7) (sq_stepper upC_sep) rfl rfl rfl ?_)
  try any_goals (first | (refine Sq_nil ?_; try refine G_then ?_) | refine G_then ?_)
  try any_goals (refine H_seq ?_)
  try any_goals (refine H_seq ?_)
  try any_goals (refine H_draw' (by kernel_rfl) upC_sep ?_)
  try any_goals (refine W_move (d := 11) wk_stepper rfl rfl rfl ?_)
  try any_goals (first | refine W_fieldG (d := 12) wk_stepper (Proj.head _ _ _) (by kernel_rfl) rfl rfl rfl ?_ | refine W_fieldC (d := 12) wk_stepper (off := 0) (by kernel_rfl) rfl rfl rfl ?_)
  try any_goals (refine W_loadS (d := 13) wk_stepper (by kernel_rfl) rfl rfl rfl ?_)
  try any_goals (first | refine W_len (d := 14) wk_stepper (by kernel_rfl) rfl rfl rfl ?_ | refine W_lenStr (d := 14) wk_stepper (by kernel_rfl) rfl rfl rfl ?_)
  try any_goals (refine W_ar (d := 15) wk_stepper rfl rfl rfl rfl rfl (by first | omega | (dsimp only; omega)) ?_)
  try any_goals (refine W_ct (d := 16) wk_stepper (ct_l1In _ _ _) rfl rfl rfl (by kernel_rfl) ?_)
  try any_goals (refine W_not (d := 17) wk_stepper rfl rfl rfl ?_)
  try any_goals (refine W_move (d := 18) wk_stepper rfl rfl rfl ?_)
  try any_goals (first | refine W_gT (d := 19) wk_stepper _ rfl rfl ?_ | refine W_gF (d := 19) wk_stepper _ rfl rfl ?_ | (refine W_splitG wk_stepper _ rfl _ rfl (fun hq => ?_) (fun hq => ?_) <;> ((try simp only [hqs, reduceCtorEq] at hq); try (have hq' := hq; clear hq))))
  try any_goals (first | refine W_skip (d := 19) wk_stepper rfl rfl ?_ | refine W_fieldG (d := 19) wk_stepper (Proj.tail _ _ (Proj.head _ _ _)) (by kernel_rfl) rfl rfl rfl ?_ | refine W_fieldC (d := 19) wk_stepper (off := 1) (by kernel_rfl) rfl rfl rfl ?_)
  try any_goals (first | refine W_skip (d := 20) wk_stepper rfl rfl ?_ | refine W_loadS (d := 20) wk_stepper (by kernel_rfl) rfl rfl rfl ?_)
  try any_goals (first | refine W_skip (d := 21) wk_stepper rfl rfl ?_ | refine W_move (d := 21) wk_stepper rfl rfl rfl ?_)
  try any_goals (first | refine W_skip (d := 22) wk_stepper rfl rfl ?_ | refine W_index (d := 22) wk_stepper (by kernel_rfl) rfl rfl rfl rfl (by first | omega | (dsimp only; omega)) ?_)
  try any_goals (first | refine W_skip (d := 23) wk_stepper rfl rfl ?_ | refine W_loadS (d := 23) wk_stepper (by kernel_rfl) rfl rfl rfl ?_)
  try any_goals (first | refine W_skip (d := 24) wk_stepper rfl rfl ?_ | refine W_len (d := 24) wk_stepper (by kernel_rfl) rfl rfl rfl ?_ | refine W_lenStr (d := 24) wk_stepper (by kernel_rfl) rfl rfl rfl ?_)
  try any_goals (first | refine W_skip (d := 25) wk_stepper rfl rfl ?_ | refine W_fieldG (d := 25) wk_stepper (Proj.head _ _ _) (by kernel_rfl) rfl rfl rfl ?_ | refine W_fieldC (d := 25) wk_stepper (off := 0) (by kernel_rfl) rfl rfl rfl ?_)
  try any_goals (first | refine W_skip (d := 26) wk_stepper rfl rfl ?_ | refine W_loadS (d := 26) wk_stepper (by kernel_rfl) rfl rfl rfl ?_)
  try any_goals (first | refine W_skip (d := 27) wk_stepper rfl rfl ?_ | refine W_move (d := 27) wk_stepper rfl rfl rfl ?_)
  try any_goals (first | refine W_skip (d := 28) wk_stepper rfl rfl ?_ | refine W_index (d := 28) wk_stepper (by kernel_rfl) rfl rfl rfl rfl (by first | omega | (dsimp only; omega)) ?_)
  try any_goals (first | refine W_skip (d := 29) wk_stepper rfl rfl ?_ | refine W_loadI (d := 29) wk_stepper (by kernel_rfl) rfl rfl rfl ?_)
  try any_goals (first | refine W_skip (d := 30) wk_stepper rfl rfl ?_ | refine W_cmp (d := 30) wk_stepper rfl rfl rfl rfl rfl ?_ | refine W_eqlStr (d := 30) wk_stepper rfl rfl rfl rfl ?_ | refine W_eqlB (d := 30) wk_stepper rfl rfl Try.underlying4 rfl rfl ?_)
  try any_goals (first | refine W_pickT (d := 31) wk_stepper rfl rfl rfl rfl ?_ | refine W_pickF (d := 31) wk_stepper rfl rfl rfl rfl ?_)
  try any_goals (refine W_move (d := 32) wk_stepper rfl rfl rfl ?_)
  try any_goals (first | refine W_gT (d := 33) wk_stepper _ rfl rfl ?_ | refine W_gF (d := 33) wk_stepper _ rfl rfl ?_ | (refine W_splitG wk_stepper _ rfl _ rfl (fun hq => ?_) (fun hq => ?_) <;> ((try simp only [hqs, reduceCtorEq] at hq); try (have hq' := hq; clear hq))))
  try any_goals (first | refine W_skip (d := 33) wk_stepper rfl rfl ?_ | refine W_move (d := 33) wk_stepper rfl rfl rfl ?_)
  try any_goals (first | refine W_skip (d := 34) wk_stepper rfl rfl ?_ | refine W_ct (d := 34) wk_stepper (ct_l1In _ _ _) rfl rfl rfl (by kernel_rfl) ?_)
  try any_goals (first | refine W_skip (d := 35) wk_stepper rfl rfl ?_ | refine W_not (d := 35) wk_stepper rfl rfl rfl ?_)
  try any_goals (first | refine W_pickT (d := 36) wk_stepper rfl rfl rfl rfl ?_ | refine W_pickF (d := 36) wk_stepper rfl rfl rfl rfl ?_)
  try any_goals (refine Wk_end (by kernel_rfl) (by kernel_rfl) ?_)
  try any_goals (refine G_then ?_)
  try any_goals (first | refine H_condT rfl ?_ | refine H_condF rfl (Wt.un 0 ?_) | (refine H_cond _ rfl (fun hq => ?_) (fun hq => Wt.un 0 ?_) <;> (try simp only [hqs, reduceCtorEq] at hq)))
  try any_goals (refine H_seq ?_)
  try any_goals (refine H_weakenC (C' := Sep w [.sl Dep 29 bDep [⟨[], []⟩] (.slice (some ⟨g6, 0, none⟩) 1 1)]) (fun w' h => Sep.asL (m := 0) h rfl dep_nil) ?_)
  try any_goals (refine H_reg ?_)
  try any_goals (refine W_loadA (d := 37) (sq_stepper upC_sep) (by kernel_rfl) rfl rfl rfl ?_)
  try any_goals (refine Sq_storeL 0 d rfl ⟨av_dep, trivial⟩ (by kernel_rfl) rfl rfl ?_)
  try any_goals (refine W_assign (d := 7) (sq_stepper upC_sep) rfl rfl rfl ?_)
  try any_goals (first | (refine Sq_nil ?_; try refine G_then ?_) | refine G_then ?_)
  try any_goals (refine H_ret ?_)
  repeat (any_goals (first | refine G_ret_then ?_ | refine G_ret_block ?_))
  try any_goals (refine G_hold 1 ?_)
  try any_goals (refine Wt.out 0 ?_)
  try any_goals (refine H_skip ?_)
  try any_goals (refine Wt.out 1 ?_)
  try any_goals (refine G_then ?_)
  try any_goals (refine H_seq ?_)
  try any_goals (first | (refine H_seq ?_; try refine H_reg ?_) | refine H_reg ?_)
  try any_goals (refine W_loadA (d := 39) (sq_stepper upC_sep) (by kernel_rfl) rfl rfl rfl ?_)
  try any_goals (refine W_move (d := 40) (sq_stepper upC_sep) rfl rfl rfl ?_)
  try any_goals (refine W_ct (d := 41) (sq_stepper upC_sep) (hpl) rfl rfl rfl (by kernel_rfl) ?_)
  try any_goals (refine W_move (d := 38) (sq_stepper upC_sep) rfl rfl rfl ?_)
  try any_goals (refine W_extract (d := 42) (sq_stepper upC_sep) rfl rfl rfl rfl ?_)
  try any_goals (refine W_extract (d := 43) (sq_stepper upC_sep) rfl rfl rfl rfl ?_)
  try any_goals (refine W_assign (d := 8) (sq_stepper upC_sep) rfl rfl rfl ?_)
  try any_goals (refine W_assign (d := 9) (sq_stepper upC_sep) rfl rfl rfl ?_)
  try any_goals (first | (refine Sq_nil ?_; try refine G_then ?_) | refine G_then ?_)
  try any_goals (first | (refine H_seq ?_; try refine H_reg ?_) | refine H_reg ?_)
  try any_goals (refine W_move (d := 44) (sq_stepper upC_sep) rfl rfl rfl ?_)
  try any_goals (first | refine W_cmp (d := 45) (sq_stepper upC_sep) rfl rfl rfl rfl rfl ?_ | refine W_strcmp (d := 45) (sq_stepper upC_sep) rfl rfl rfl rfl rfl ?_)
  try any_goals (first | (refine Sq_nil ?_; try refine G_then ?_) | refine G_then ?_)
  try any_goals (first | refine H_condT rfl ?_ | refine H_condF rfl (Wt.un 2 ?_) | (refine H_cond _ rfl (fun hq => ?_) (fun hq => Wt.un 2 ?_) <;> (try simp only [hqs, reduceCtorEq] at hq)))
  try any_goals (refine H_seq ?_)
  try any_goals (refine H_weakenC (C' := Sep w [.sl Dep 29 bDep [⟨[], []⟩] (.slice (some ⟨g6, 0, none⟩) 1 1)]) (fun w' h => Sep.asL (m := 0) h rfl dep_nil) ?_)
  try any_goals (refine H_reg ?_)
  try any_goals (refine W_loadA (d := 46) (sq_stepper upC_sep) (by kernel_rfl) rfl rfl rfl ?_)
  try any_goals (refine Sq_storeL 0 d rfl ⟨av_dep, trivial⟩ (by kernel_rfl) rfl rfl ?_)
  try any_goals (refine W_assign (d := 7) (sq_stepper upC_sep) rfl rfl rfl ?_)
  try any_goals (first | (refine Sq_nil ?_; try refine G_then ?_) | refine G_then ?_)
  try any_goals (refine H_ret ?_)
  repeat (any_goals (first | refine G_ret_then ?_ | refine G_ret_block ?_))
  try any_goals (refine G_hold 3 ?_)
  try any_goals (refine Wt.out 2 ?_)
  try any_goals (refine H_skip ?_)
  try any_goals (refine Wt.out 3 ?_)
  try any_goals (refine G_then ?_)
  try any_goals (first | (refine H_seq ?_; try refine H_reg ?_) | refine H_reg ?_)
  try any_goals (refine W_loadA (d := 47) (sq_stepper upC_sep) (by kernel_rfl) rfl rfl rfl ?_)
  try any_goals ((refine Sq_ctxD (fun w1 => cx_l15Own d hf w1) rfl rfl (by kernel_rfl) (fun y hl => ?_); obtain ⟨vS, vT, vs⟩ := y; have hl : vs.length = d.T.length := hl))
  try any_goals (refine Sq_allocS (d := 10) (n := 2) (by kernel_rfl) rfl (fun g8 cs8 hcs8 => ?_))
  try any_goals (refine Sq_cls (fun wq hq => ?_); have hone := dp_one (Sep.drop hq); refine Sq_storeRaw 0 (k := 2) (vs := [vS, vT]) rfl ⟨trivial, avAll_dp ⟨trivial, trivial⟩⟩ (by kernel_rfl) rfl rfl rfl (raw_ag hone) (by rw [hcs8]; exact Nat.le_refl _) ?_; rw [putL_all (by rw [hcs8]; rfl), List.set_cons_zero]; refine Sq_weaken (C' := Sep w (dpL d vS vT vs ++ [.raw 29 g8 [vS, vT], .raw 29 g6 [.slice none 0 0, .slice none 0 0]])) (fun w' h => h.perm List.perm_middle.symm) ?_)
  try any_goals (first | (refine Sq_nil ?_; try refine G_then ?_) | refine G_then ?_)
  try any_goals (refine H_seq ?_)
  try any_goals (have hti : 0 ≤ tr ∧ tr < (d.T.length : Int) := ⟨by omega, by omega⟩; have hrb := hd.row' hti)
  try any_goals (refine H_drawA [3, 4, 5, 6, 7, 8, 9] [0, 1, 2] [11, 12] 10 59 (fun w => Blk w g8 29 [vS, vT]) (fun v59 : Value => v59) (fun v59 => Sep w ((dpL d vS vT vs ++ [Osl.raw 29 g8 [vS, vT], Osl.raw 29 g6 [.slice none 0 0, .slice none 0 0]]).set (tr.toNat + 2) (Osl.sl Int 3 pI (ix d.T tr ++ [v]) v59))) (by kernel_rfl) (by kernel_rfl) (by kernel_rfl) rfl rfl upC_sep (fun _ => upC_sep) (fun w h => h.raw get_mid) (fun y w h => h.raw (hm_far get_mid (by simp only [dpL, List.length_cons, rowsZ_len hl]; omega))) ?_)
  try any_goals (first | refine W_fieldG (d := 52) wa_stepper (Proj.tail _ _ (Proj.head _ _ _)) (by kernel_rfl) rfl rfl rfl ?_ | refine W_fieldC (d := 52) wa_stepper (off := 1) (by kernel_rfl) rfl rfl rfl ?_)
  try any_goals (refine W_loadRaw (d := 53) (dpL d vS vT vs).length wa_stepper get_mid (by kernel_rfl) rfl rfl rfl rfl ?_)
  try any_goals (refine W_move (d := 54) wa_stepper rfl rfl rfl ?_)
  try any_goals (refine W_idxS1 (d := 55) 1 wa_stepper rfl rfl (by kernel_rfl) rfl rfl rfl rfl ⟨by omega, by omega⟩ ?_)
  try any_goals (refine W_loadSV (d := 56) 1 wa_stepper rfl ⟨by omega, by omega⟩ (by kernel_rfl) rfl rfl rfl ?_)
  try any_goals (refine W_move (d := 57) wa_stepper rfl rfl rfl ?_)
  try any_goals (refine W_buildS (d := 58) wa_stepper [(Operand.tmp 57)] pI [_] (e := 3) (by kernel_rfl) (by kernel_rfl) rfl rfl (by kernel_rfl) rfl rfl rfl ⟨elem_I, trivial⟩ ?_)
  try any_goals (refine WA_nil (WrOb_appS (tr.toNat + 2) rfl (dpL_rowI hl hti) (avAll_dp (L0 := [Osl.raw _ _ _, Osl.raw _ _ _]) ⟨trivial, trivial, trivial⟩) (by kernel_rfl) (by kernel_rfl) rfl rfl rfl ⟨by simp only [List.length_cons, List.length_nil]; omega, by simp⟩) ?_)
  try any_goals (refine A_one rfl ?_)
  try any_goals (first | refine W_fieldG (d := 49) wl1_stepper (Proj.tail _ _ (Proj.head _ _ _)) (by kernel_rfl) rfl rfl rfl ?_ | refine W_fieldC (d := 49) wl1_stepper (off := 1) (by kernel_rfl) rfl rfl rfl ?_)
  try any_goals (refine A_end ?_)
  try any_goals (refine A_one rfl ?_)
  try any_goals (refine W_loadO (d := 50) wl1_stepper (by kernel_rfl) rfl rfl rfl (fun w' h => Blk.cell h rfl) ?_)
  try any_goals (refine A_end ?_)
  try any_goals (refine A_one rfl ?_)
  try any_goals (refine W_move (d := 51) wl1_stepper rfl rfl rfl ?_)
  try any_goals (refine A_end ?_)
  try any_goals (refine A_nil (fun v59 => ?_))
  try any_goals (refine W_idxS1 (d := 60) 1 (sq_stepper upC_sep) (hm_far (o := Osl.sl Value 22 pV vs vT) rfl (by omega)) rfl (by kernel_rfl) rfl rfl rfl rfl ⟨by omega, by omega⟩ ?_)
  try any_goals (refine Sq_slV (tr.toNat + 2) (hm_set (dpL_rowI hl hti)) (fun hv59 => ?_); refine Sq_storeSV 1 (hm_far (o := Osl.sl Value 22 pV vs vT) rfl (by omega)) ((avAll_dp (L0 := [Osl.raw _ _ _, Osl.raw _ _ _]) ⟨trivial, trivial, trivial⟩).set trivial) ⟨by omega, by omega⟩ (by kernel_rfl) hv59 rfl rfl ?_; rw [dpL_set' hl hti])
  try any_goals (first | (refine Sq_nil ?_; try refine G_then ?_) | refine G_then ?_)
  try any_goals (first | (refine H_seq ?_; try refine H_reg ?_) | refine H_reg ?_)
  try any_goals (refine W_loadRawA (d := 61) (dpL ⟨d.S, d.T.set tr.toNat (ix d.T tr ++ [v])⟩ vS vT (vs.set tr.toNat v59)).length (sq_stepper upC_sep) get_mid (by kernel_rfl) rfl rfl rfl rfl ?_)
  try any_goals (refine Sq_storeRaw ((dpL ⟨d.S, d.T.set tr.toNat (ix d.T tr ++ [v])⟩ vS vT (vs.set tr.toNat v59)).length + 1) (k := 2) (vs := [vS, vT]) (cs := [.slice none 0 0, .slice none 0 0]) (b := g6) (e := 29) (by simp) (avAll_dp (L0 := [Osl.raw _ _ _, Osl.raw _ _ _]) ⟨trivial, trivial, trivial⟩) (by kernel_rfl) rfl rfl rfl (raw_ag hone) (Nat.le_refl _) ?_)
  try any_goals (refine W_assign (d := 7) (sq_stepper upC_sep) rfl rfl rfl ?_)
  try any_goals (first | (refine Sq_nil ?_; try refine G_then ?_) | refine G_then ?_)
  try any_goals (refine H_ret ?_)
  repeat (any_goals (first | refine G_ret_then ?_ | refine G_ret_block ?_))
  all_goals (try have hs8 := fun (h : 0 ≤ tr ∧ tr < (d.T.length : Int)) => by have := hd.s tr.toNat (by omega); rw [show ((tr.toNat : Nat) : Int) = tr by omega] at this; exact this)
  all_goals first
    | (have htb := pkB_n (d := d) (v := v) (tr := tr) (by omega)
       exact RL_c1 0 rfl (by kernel_rfl) (fun _ h => h.ext) rfl rfl rfl (pkD_n htb).symm (fun v w' _ hv => by rw [htb]; exact hv))
    | (have hs9 := hs8 ⟨by omega, by omega⟩
       have htb := pkB_y (d := d) (v := v) (tr := tr) ⟨by omega, by omega, by omega⟩
       refine R_c1 ((dpL ⟨d.S, d.T.set tr.toNat (ix d.T tr ++ [v])⟩ vS vT (vs.set tr.toNat v59)).length + 1) (b := g6) (e := 29) (cs := [vS, vT]) (k := 2) rfl (by kernel_rfl) (fun _ h => h.ext) rfl rfl (hm_set (o := Osl.raw 29 g6 [.slice none 0 0, .slice none 0 0]) (by simp)) rfl (fun w' hc => ?_) (fun v w' _ hv => by rw [htb]; exact hv)
       rw [set_two] at hc
       rw [pkD_y htb]
       exact Sep.dep hc (by simp only [tkT, pkT, List.length_set]; exact hl))
    | trace_state
end Go.Proofs.Ytbipnenkgkebjaa

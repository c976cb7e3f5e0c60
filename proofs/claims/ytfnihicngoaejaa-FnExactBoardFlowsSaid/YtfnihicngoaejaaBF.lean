/- BoardFlows: a call whose result is memory of its own, joined with what the caller owns; the reference's side. -/
import Derived.Test.YtfnihicngoaejaaBrdC
import Derived.Test.YtfnihicngoaejaaIns
namespace Go.Proofs.Ytfnihicngoaejaa
set_option linter.unusedSimpArgs false
set_option linter.unusedVariables false
open Go.RowKit Go.ChangeShapes Go.WideShapes Go.ChangeAt Go.Deep
theorem Sep.join {w0 w1 w' : World} {L1 L : List Osl} (h0 : Sep w0 L w1) (h1 : Sep w1 L1 w') : Sep w0 (L1 ++ L) w' := by
  unfold Sep at h0 h1 ⊢
  obtain ⟨B0, hl0, c0⟩ := h0
  obtain ⟨B1, hl1, c1⟩ := h1
  have c0' := upC_cls upC_fct _ _ c0 c1.ext
  have hlt : ∀ x ∈ B0.filterMap (fun x => x.1), x < w1.heap.size := fun x hx => by
    obtain ⟨⟨A', t', c'⟩, hy, e⟩ := List.mem_filterMap.1 hx
    have e' : A' = some x := e
    subst e'
    exact (c0.blk _ hy : Blk w1 x t' c').lt
  refine ⟨B1 ++ B0, by rw [List.length_append, List.length_append, hl0, hl1], c0'.ext, ?_, fun x hx => ?_, fun x hx => ?_, fun m o x hm hx => ?_⟩
  · rw [List.filterMap_append]
    refine List.nodup_append.2 ⟨c1.nd, c0.nd, fun x hx y hy e => ?_⟩
    subst e
    have h1 := c1.lo x hx
    have h2 := hlt x hy
    omega
  · rw [List.filterMap_append] at hx
    rcases List.mem_append.1 hx with hx | hx
    · exact Nat.le_trans c0.ext.size (c1.lo x hx)
    · exact c0.lo x hx
  · rcases List.mem_append.1 hx with hx | hx
    · exact c1.blk x hx
    · exact c0'.blk x hx
  · rcases Nat.lt_or_ge m L1.length with h | h
    · rw [List.getElem?_append_left h] at hm
      rw [List.getElem?_append_left (by omega)] at hx
      exact c1.fct m o x hm hx
    · rw [List.getElem?_append_right h] at hm
      rw [List.getElem?_append_right (by omega), hl1] at hx
      exact c0'.fct _ o x hm hx
section
variable {P : Program} {ops : Array Oper} {C : World → Prop} {Q : Exit → Act → World → Prop} {N : Nat} {M : List (Nat × Pr) → List Oper → Prop} {K : List (Nat × Pr)} {rest : List Oper} {d : Nat} {ty : TypeId} {pos : String} {af : Array Edge} {g : Option (Nat × Bool)} {w0 : World} {L : List Osl}
theorem Sq_ctxJ {f : FuncId} {xs : Array Operand} {ats : Array TypeId} {ps : List Pr} {σ : Type} {L1 : σ → List Osl} {p : σ → Prop} {R : σ → Pr} (hct : ∀ w1, CTX P f (fun u => u = w1) ps (fun y w' => Sep w1 (L1 y) w' ∧ p y) R) (hN : Nat.blt d N = true) (hargs : knAll K xs.toList = some ps) (hB : callB P f = true)
    (h : ∀ y, p y → Sq P ops N (Sep w0 (L1 y ++ L)) Q ((d, R y) :: K) rest) : Sq P ops N (Sep w0 L) Q K (⟨some d, .call { callee := .value (.func f), args := xs, argTypes := ats }, ty, pos, af, none⟩ :: rest) := by
  unfold Sq
  intro a w hst
  refine wpList_plain rfl fun K' hK' => ?_
  unfold Oper.wp
  rw [run_call hB rfl]
  simp only [Oper.upon]
  have hall := knAll_ok (ρ := a.eval) (w := w) xs.toList ps hargs fun x hx p hp => kn_val hst hp
  have hc := hct w w _ rfl hall
  have e1 : (xs.toList.map a.eval).toArray = xs.map a.eval := by
    apply Array.ext'
    simp
  rw [e1] at hc
  refine hc.mono fun en w' ⟨v, he, y, ⟨hS, hp⟩, hR⟩ => ?_
  subst he
  have hsq := h y hp
  unfold Sq at hsq
  have hst0 := hst.cls' (C' := fun _ => True) trivial
  have hst2 := hst0.step (d := d) (R := R y) (v := v) (fun _ _ _ _ => trivial) hS.ext (Nat.le_of_ble_eq_true hN) hR
  exact hK' _ _ (hsq _ _ (hst2.cls' (hst.cls.join hS)))
theorem W_fieldK (hM : Stepper P ops C N M) {x : Operand} {t : TypeId} {i off : Nat} {cs : List Value} {v : Value} (hB : fieldV P t i off = true) (hg : wantedK ops K g = some true) (hN : Nat.blt d N = true) (hx : kn K x = some (.inl (.agg cs.toArray))) (hv : cs[off]? = some v)
    (h : M ((d, .inl v) :: K) rest) : M K (⟨some d, .field t x i, ty, pos, af, g⟩ :: rest) :=
  W_val hM hN hg (fun ρ w _ hk => run_fieldV hB (hk x (by simp [Op.operands]) _ hx) hv) h
end
def bfR (t : Tab) (fs : List Flw) (cap : Int) : List (List Int) := if bdA t fs cap then (bdO t fs cap fs.length).1.L else []
theorem bfR_y {t : Tab} {fs : List Flw} {cap : Int} (h : bdA t fs cap = true) : bfR t fs cap = (bdO t fs cap fs.length).1.L := by rw [bfR, h]; rfl
theorem bfR_n {t : Tab} {fs : List Flw} {cap : Int} (h : bdA t fs cap = false) : bfR t fs cap = [] := by rw [bfR, h]; rfl
theorem ct_sBF {e : Option TypeId} (t : Tab) (fs : List Flw) (cap : Int) : CT Try.prog 41 [.inr (uA bTab t), .inr (uS e pFlw fs), .inl (.int .i64 cap)] (.inr (uT [.inr (uS (some 51) (pS (some 3) pI) (bfR t fs cap)), .inl (.bool (bdA t fs cap))])) := by
  refine CT_of Try.func41 rfl rfl rfl (fun w => ?_)
  have hC := upC_ext w
  have hA := ct_l20Asked (e := e) t fs cap
  cases h : bdA t fs cap
  · rw [h] at hA
    try any_goals ((refine H_seq ?_; try refine H_reg ?_))
    try any_goals (refine W_boxA (d := 3) (sq_stepper hC) rfl rfl rfl ?_)
    try any_goals (refine W_assign (d := 6) (sq_stepper hC) rfl rfl rfl ?_)
    try any_goals (refine W_assign (d := 7) (sq_stepper hC) rfl rfl rfl ?_)
    try any_goals ((refine Sq_nil ?_; try refine G_then ?_))
    try any_goals (refine H_seq ?_)
    try any_goals ((refine H_seq ?_; try refine H_reg ?_))
    try any_goals (refine W_loadA (d := 8) (sq_stepper hC) (by kernel_rfl) rfl rfl rfl ?_)
    try any_goals (refine W_move (d := 9) (sq_stepper hC) rfl rfl rfl ?_)
    try any_goals (refine W_move (d := 10) (sq_stepper hC) rfl rfl rfl ?_)
    try any_goals (refine W_ct (d := 11) (sq_stepper hC) (hA) rfl rfl rfl (by kernel_rfl) ?_)
    try any_goals (refine W_not (d := 12) (sq_stepper hC) rfl rfl rfl ?_)
    try any_goals ((refine Sq_nil ?_; try refine G_then ?_))
    try any_goals (refine H_condT rfl ?_)
    try any_goals ((refine H_seq ?_; try refine H_reg ?_))
    try any_goals ((refine W_buildS (d := 13) (sq_stepper hC) [] (pS (some 3) pI) [] (e := 51) (by kernel_rfl) (by kernel_rfl) rfl rfl (by kernel_rfl) rfl rfl rfl trivial ?_))
    try any_goals (refine W_assign (d := 6) (sq_stepper hC) rfl rfl rfl ?_)
    try any_goals (refine W_assign (d := 7) (sq_stepper hC) rfl rfl rfl ?_)
    try any_goals ((refine Sq_nil ?_; try refine G_then ?_))
    try any_goals (refine H_ret ?_)
    repeat (any_goals (first | refine G_ret_then ?_ | refine G_ret_block ?_))
    repeat (any_goals (first | refine G_ret_then ?_ | refine G_ret_block ?_))
    all_goals first
      | exact R2 rfl (fun _ h => h) rfl rfl (fun v w' _ hv => by rw [bfR_n h]; exact hv) (fun v w' _ hv => hv)
      | trace_state
  · rw [h] at hA
    obtain ⟨hv, hf, hc⟩ := bdA_t h
    have h12 := (tabB_k hv).2.1
    have hl := (bdO_ok hv hf hc.1 (Nat.le_refl fs.length)).l
    try any_goals ((refine H_seq ?_; try refine H_reg ?_))
    try any_goals (refine W_boxA (d := 3) (sq_stepper hC) rfl rfl rfl ?_)
    try any_goals (refine W_assign (d := 6) (sq_stepper hC) rfl rfl rfl ?_)
    try any_goals (refine W_assign (d := 7) (sq_stepper hC) rfl rfl rfl ?_)
    try any_goals ((refine Sq_nil ?_; try refine G_then ?_))
    try any_goals (refine H_seq ?_)
    try any_goals ((refine H_seq ?_; try refine H_reg ?_))
    try any_goals (refine W_loadA (d := 8) (sq_stepper hC) (by kernel_rfl) rfl rfl rfl ?_)
    try any_goals (refine W_move (d := 9) (sq_stepper hC) rfl rfl rfl ?_)
    try any_goals (refine W_move (d := 10) (sq_stepper hC) rfl rfl rfl ?_)
    try any_goals (refine W_ct (d := 11) (sq_stepper hC) (hA) rfl rfl rfl (by kernel_rfl) ?_)
    try any_goals (refine W_not (d := 12) (sq_stepper hC) rfl rfl rfl ?_)
    try any_goals ((refine Sq_nil ?_; try refine G_then ?_))
    try any_goals (refine H_condF rfl ?_)
    try any_goals (skip)
    repeat (any_goals (first | refine G_ret_then ?_ | refine G_ret_block ?_))
    try any_goals (refine H_skip ?_)
    try any_goals (refine G_then ?_)
    try any_goals (refine H_seq ?_)
    try any_goals (refine H_pinR 3 (fun wr hwr => ?_); refine H_weakenC (C' := Sep wr []) (fun w' h => sep_start h) ?_; have hC : UpC (Sep wr []) := upC_sep)
    try any_goals (refine H_reg ?_)
    try any_goals (refine Sq_buildS (d := 14) [] pV [] (e := 51) (by kernel_rfl) (by kernel_rfl) rfl rfl (by kernel_rfl) rfl rfl trivial rfl (fun v14 => ?_); have hC : UpC (Sep wr [.sl Value 51 pV [] v14]) := upC_sep)
    try any_goals (refine W_loadA (d := 15) (sq_stepper hC) (by kernel_rfl) rfl rfl rfl ?_)
    try any_goals (refine W_move (d := 16) (sq_stepper hC) rfl rfl rfl ?_)
    try any_goals (refine W_move (d := 17) (sq_stepper hC) rfl rfl rfl ?_)
    try any_goals ((refine Sq_ctxJ (fun w1 => cx_l20Board t fs cap hv hf hc w1) rfl rfl (by kernel_rfl) (fun y hvl => ?_); obtain ⟨g6, g7, vOn, vOff, vs, vL, vW⟩ := y; have hvl : vs.length = t.T.length := hvl; refine Sq_weaken (C' := Sep wr (.sl Value 51 pV [] v14 :: brX g6 g7 vOn vOff vs vL vW t fs cap)) (fun w' h => h.perm (List.perm_append_singleton _ _)) ?_; have hC : UpC (Sep wr (.sl Value 51 pV [] v14 :: brX g6 g7 vOn vOff vs vL vW t fs cap)) := upC_sep))
    try any_goals (refine W_fieldK (d := 19) (sq_stepper hC) (off := 0) (by kernel_rfl) rfl rfl rfl rfl ?_)
    try any_goals (refine Sq_recall 19 (U := uS (some 51) pV vs) (fun w' h => Sep.isS (m := 2) h rfl) rfl ?_; refine Sq_appSZ (d := 20) 0 (Ψ := pV) rfl ⟨trivial, trivial, brC_av⟩ (by kernel_rfl) (by kernel_rfl) rfl rfl rfl (by simp only [List.length_nil]; omega) (fun vb => ?_); have hC : UpC (Sep wr (.sl Value 51 pV ([] ++ vs) vb :: brX g6 g7 vOn vOff vs vL vW t fs cap)) := upC_sep)
    try any_goals (refine W_assign (d := 6) (sq_stepper hC) rfl rfl rfl ?_)
    try any_goals (refine W_assign (d := 7) (sq_stepper hC) rfl rfl rfl ?_)
    try any_goals ((refine Sq_nil ?_; try refine G_then ?_))
    try any_goals (refine H_ret ?_)
    repeat (any_goals (first | refine G_ret_then ?_ | refine G_ret_block ?_))
    all_goals first
      | exact R2 rfl (fun _ h => hwr.trans h.ext) rfl rfl (fun v w' hc hv => by
          rw [bfR_y h, show v = _ from hv]
          exact isS_rows (vs := vs) (by omega) (hc.isS (m := 0) rfl) (fun i hi => hc.isS (m := i + 7) (rowsZ_get (by omega) hi))) (fun v w' _ hv => hv)
      | trace_state
end Go.Proofs.Ytfnihicngoaejaa

/- DepartureOrder: the program's side. -/
import Derived.Test.YtbipnenkgkebjaaOrS
import Derived.Test.YtbipnenkgkebjaaDlI
import Derived.Test.YtbipnenkgkebjaaIM
namespace Go.Proofs.Ytbipnenkgkebjaa
set_option linter.unusedSimpArgs false
set_option linter.unusedVariables false
open Go.RowKit Go.ChangeShapes Go.WideShapes Go.ChangeAt Go.Deep
section
variable {P : Program} {ops : Array Oper} {C : World → Prop} {Q : Exit → Act → World → Prop} {N : Nat} {M : List (Nat × Pr) → List Oper → Prop} {K : List (Nat × Pr)} {rest : List Oper} {d : Nat} {op : Op} {ty : TypeId} {pos : String} {af : Array Edge} {g : Option (Nat × Bool)}
theorem W_makeFunV (hM : Stepper P ops C N M) {f : FuncId} {xs : Array Operand} (vs : List Value) (hargs : knAll K xs.toList = some (vs.map .inl)) (hg : wantedK ops K g = some true) (hN : Nat.blt d N = true)
    (h : M ((d, .inl (.func (.func f) #[] vs.toArray)) :: K) rest) : M K (⟨some d, .makeFunc (.func f) #[] xs, ty, pos, af, g⟩ :: rest) :=
  W_det hM _ hN hg (fun ρ w hc hk => by
    have hall := knAll_ok (ρ := ρ) (w := w) xs.toList _ hargs fun x hx p hp => hk x (by simp only [Op.operands]; simpa using hx) p hp
    have key : ∀ (us : List Value) (vs : List Value), okAll (vs.map .inl) us w → us = vs := by
      intro us
      induction us with
      | nil => intro vs h; cases vs with
        | nil => rfl
        | cons v vs => simp [okAll] at h
      | cons u us ih => intro vs h; cases vs with
        | nil => simp [okAll] at h
        | cons v vs =>
          obtain ⟨h1, h2⟩ := h
          rw [show u = v from h1, ih vs h2]
    have e := key _ _ hall
    have e2 : xs.map ρ = vs.toArray := by
      apply Array.ext'
      simpa using e
    exact ⟨.func (.func f) #[] vs.toArray, by simp [execOp, Instr.makeFunc, e2], rfl⟩) h
end
section
variable {P : Program} {ops : Array Oper} {C : World → Prop} {Q : Exit → Act → World → Prop} {N : Nat} {K : List (Nat × Pr)} {rest : List Oper} {d : Nat} {ty : TypeId} {pos : String} {af : Array Edge}
/-- A function value with one argument and one capture, that changes the caller's memory. -/
theorem Sq_ctxV {f : FuncId} {x y : Operand} {ats : Array TypeId} {u cap : Value} {σ : Type} {C' : σ → World → Prop} {R : σ → Pr} (hct : CTX P f C [.inl u, .inl cap] C' R) (hN : Nat.blt d N = true) (hx : kn K x = some (.inl (.func (.func f) #[] #[cap]))) (hy : kn K y = some (.inl u)) (hB : callB P f = true)
    (h : ∀ y, Sq P ops N (C' y) Q ((d, R y) :: dropR K) rest) : Sq P ops N C Q K (⟨some d, .call { callee := .value x, args := #[y], argTypes := ats }, ty, pos, af, none⟩ :: rest) := by
  unfold Sq
  intro a w hst
  refine wpList_plain rfl fun K' hK' => ?_
  have hxv : a.eval x = .func (.func f) #[] #[cap] := kn_val hst hx
  have hyv : a.eval y = u := kn_val hst hy
  have hr : (execOp a.eval ⟨some d, .call { callee := .value x, args := #[y], argTypes := ats }, ty, pos, af, none⟩).run P w = .ok (.enter f #[u, cap]) w := by
    unfold callB at hB
    cases hfn : P.funcs[f]? with
    | none => rw [hfn] at hB; cases hB
    | some fn =>
      rw [hfn] at hB
      simp only [Bool.and_eq_true, Bool.not_eq_true'] at hB
      obtain ⟨h1, h2⟩ := hB
      have h3 : ¬ fn.body = none := by cases hb : fn.body <;> simp_all
      have h4 : ¬ fn.name = "runtime.NumGoroutine" := by simpa using h2
      simp [execOp, resolve, hxv, hyv, Deferred.ofValue, invoke, callFunc, hfn, h4, h3]
  unfold Oper.wp
  rw [hr]
  simp only [Oper.upon]
  have hc := hct w [u, cap] hst.cls ⟨rfl, rfl, trivial⟩
  refine hc.mono fun en w' ⟨v, he, y, hC', hR⟩ => ?_
  subst he
  have hsq := h y
  unfold Sq at hsq
  have hst1 := hst.turned (w' := w') (C' := fun _ => True) trivial
  have hst2 := hst1.step (d := d) (R := R y) (v := v) (fun _ _ _ _ => trivial) (Ext.refl _) (Nat.le_of_ble_eq_true hN) hR
  exact hK' _ _ (hsq _ _ (hst2.cls' hC'))
end
theorem cnX_erase {xs : List Int} {i : Int} (h : 0 ≤ i) : cnX xs i = xs.eraseIdx i.toNat := by
  rw [cnX, List.eraseIdx_eq_take_drop_succ, show (i + 1).toNat = i.toNat + 1 by omega]
/-- After a search for one that can be taken. -/
def orS (l : List Int) (d : Dep) : Dep := if 0 ≤ orF l d then tkD d (ix l (orF l d)) else d
theorem orS_l {l : List Int} {d : Dep} : (orS l d).T.length = d.T.length := by
  unfold orS
  split
  · exact tkD_l
  · rfl
theorem cx_or1 {w0 : World} {L : List Osl} (dd : Dep) (v : Int) (g : Nat) (vS vT : Value) (vs : List Value) (hl : vs.length = dd.T.length) (hd : DvI dd) (ha : avAll L 22) :
    CTX Try.prog 59 (Sep w0 (shK g dd vS vT vs L)) [.inl (.int .i64 v), .inl (.pointer (some ⟨g, 0, none⟩))] (fun (vs' : List Value) w' => Sep w0 (shK g (tkD dd v) vS vT vs' L) w' ∧ vs'.length = dd.T.length) (fun _ => .inl (.bool (tkB dd.T v))) := by
  refine CTX_of Try.func59 rfl rfl rfl ?_
  have hC : UpC (Sep w0 (shK g dd vS vT vs L)) := upC_sep
  try any_goals (first | (refine H_seq ?_; try refine H_reg ?_) | refine H_reg ?_)
  try any_goals (refine W_assign (d := 3) (sq_stepper upC_sep) rfl rfl rfl ?_)
  try any_goals (first | (refine Sq_nil ?_; try refine G_then ?_) | refine G_then ?_)
  try any_goals (first | (refine H_seq ?_; try refine H_reg ?_) | refine H_reg ?_)
  try any_goals (refine W_loadRawA (d := 4) (dpL dd vS vT vs).length (sq_stepper upC_sep) get_mid (by kernel_rfl) rfl rfl rfl rfl ?_)
  try any_goals (refine W_move (d := 5) (sq_stepper upC_sep) rfl rfl rfl ?_)
  try any_goals ((refine Sq_ctx (cx_take dd v vS vT vs hl hd (L0 := .raw _ _ _ :: _) ⟨trivial, ha⟩) rfl rfl (by kernel_rfl) (fun vs2 => ?_); refine Sq_pure (fun hl2 => ?_)))
  try any_goals (refine W_assign (d := 3) (sq_stepper upC_sep) rfl rfl rfl ?_)
  try any_goals (first | (refine Sq_nil ?_; try refine G_then ?_) | refine G_then ?_)
  try any_goals (refine H_ret ?_)
  repeat (any_goals (first | refine G_ret_then ?_ | refine G_ret_block ?_))
  all_goals first
    | exact RX1 rfl rfl (fun v w' hc hv => ⟨vs2, ⟨hc, hl2⟩, hv⟩)
    | trace_state
theorem cx_orIdx {w0 : World} {L : List Osl} {e : TypeId} (dd : Dep) (l : List Int) (vl : Value) (g : Nat) (vS vT : Value) (vs : List Value) (hl : vs.length = dd.T.length) (hd : DvI dd) (ha : avAll L 22) (hb : l.length ≤ 1048576) :
    CTX Try.prog 58 (Sep w0 (shK g dd vS vT vs (.sl Int e pI l vl :: L))) [.inl vl, .inl (.func (.func 59) #[] #[.pointer (some ⟨g, 0, none⟩)])] (fun (vs' : List Value) w' => Sep w0 (shK g (orS l dd) vS vT vs' (.sl Int e pI l vl :: L)) w' ∧ vs'.length = dd.T.length) (fun _ => .inl (.int .i64 (orF l dd))) := by
  refine CTX_of Try.func58 rfl rfl rfl ?_
  have hC : UpC (Sep w0 (shK g dd vS vT vs (.sl Int e pI l vl :: L))) := upC_sep
  try any_goals (first | (refine H_seq ?_; try refine H_reg ?_) | refine H_reg ?_)
  try any_goals (refine W_assign (d := 4) (sq_stepper upC_sep) rfl rfl rfl ?_)
  try any_goals (first | (refine Sq_nil ?_; try refine G_then ?_) | refine G_then ?_)
  try any_goals (refine H_seq ?_)
  try any_goals (first | (refine H_seq ?_; try refine H_reg ?_) | refine H_reg ?_)
  try any_goals (refine W_move (d := 6) (sq_stepper upC_sep) rfl rfl rfl ?_)
  try any_goals (refine W_lenS (d := 7) ((dpL dd vS vT vs).length + 1) (sq_stepper upC_sep) (get_mk rfl) (by kernel_rfl) rfl rfl rfl ?_)
  try any_goals (refine W_move (d := 8) (sq_stepper upC_sep) rfl rfl rfl ?_)
  try any_goals (first | (refine Sq_nil ?_; try refine G_then ?_) | refine G_then ?_)
  try any_goals (refine H_block ?_)
  try any_goals ((refine H_loop (σ := Nat × List Value) (fun x => x.1 ≤ l.length ∧ (∀ j : Nat, j < x.1 → tkB dd.T (ix l (j : Int)) = false) ∧ x.2.length = dd.T.length) (fun x => [(0, .inl vl), (1, .inl (.func (.func 59) #[] #[.pointer (some ⟨g, 0, none⟩)])), (7, .inl (.int .i64 l.length)), (8, .inl (.int .i64 x.1))]) (fun x => Sep w0 (shK g dd vS vT x.2 (.sl Int e pI l vl :: L))) (fun x => l.length - x.1) (0, vs) ⟨Nat.zero_le _, fun j hj => absurd hj (Nat.not_lt_zero _), hl⟩ (fun a w' h => h.sub (by repeat (first | exact trivial | refine ⟨⟨_, rfl, fun _ _ _ h => h⟩, ?_⟩ | refine ⟨⟨_, rfl, fun v w _ h => (show v = _ from h).trans (congrArg (Value.int .i64) (by first | omega | (dsimp only; omega)))⟩, ?_⟩)) (fun w' h => h)) (fun x hx => ?_); obtain ⟨i, vs1⟩ := x; obtain ⟨hi, hji, hl1⟩ := hx; simp only at hi hji hl1))
  try any_goals (first | (refine H_seq ?_; try refine H_reg ?_) | refine H_reg ?_)
  try any_goals (first | refine W_cmp (d := 9) (sq_stepper upC_sep) rfl rfl rfl rfl rfl ?_ | refine W_strcmp (d := 9) (sq_stepper upC_sep) rfl rfl rfl rfl rfl ?_)
  try any_goals (first | (refine Sq_nil ?_; try refine G_then ?_) | refine G_then ?_)
  try any_goals (refine H_seq ?_)
  try any_goals (first | refine H_condT rfl ?_ | refine H_condF rfl (Wt.un 0 ?_) | (refine H_cond _ rfl (fun hq => ?_) (fun hq => Wt.un 0 ?_) <;> (try simp only [hqs, reduceCtorEq] at hq)))
  try any_goals (refine H_skip ?_)
  try any_goals (refine G_hold 1 ?_)
  try any_goals (refine Wt.out 0 ?_)
  try any_goals (refine H_exit ?_)
  repeat (any_goals (first | refine G_exit_then ?_ | refine G_exit_here ?_ | refine G_exit_far rfl ?_))
  try any_goals (refine G_hold 2 ?_)
  try any_goals (refine Wt.out 1 ?_)
  try any_goals (refine G_then ?_)
  try any_goals (refine H_seq ?_)
  try any_goals (refine H_block ?_)
  try any_goals (first | (refine H_seq ?_; try refine H_reg ?_) | refine H_reg ?_)
  try any_goals (refine W_move (d := 10) (sq_stepper upC_sep) rfl rfl rfl ?_)
  try any_goals (refine W_assign (d := 5) (sq_stepper upC_sep) rfl rfl rfl ?_)
  try any_goals (first | (refine Sq_nil ?_; try refine G_then ?_) | refine G_then ?_)
  try any_goals (first | (refine H_seq ?_; try refine H_reg ?_) | refine H_reg ?_)
  try any_goals (refine W_move (d := 11) (sq_stepper upC_sep) rfl rfl rfl ?_)
  try any_goals (refine W_move (d := 12) (sq_stepper upC_sep) rfl rfl rfl ?_)
  try any_goals (refine W_move (d := 13) (sq_stepper upC_sep) rfl rfl rfl ?_)
  try any_goals (refine W_idxS1 (d := 14) ((dpL dd vS vT vs1).length + 1) (sq_stepper upC_sep) (get_mk rfl) rfl (by kernel_rfl) rfl rfl rfl rfl ⟨by omega, by omega⟩ ?_)
  try any_goals (refine W_loadSI (d := 15) ((dpL dd vS vT vs1).length + 1) (sq_stepper upC_sep) (get_mk rfl) ⟨by omega, by omega⟩ (by kernel_rfl) rfl rfl rfl ?_)
  try any_goals ((refine Sq_ctxV (cx_or1 dd (ix l (i : Int)) g vS vT vs1 hl1 hd (L := .sl Int e pI l vl :: L) ⟨trivial, ha⟩) rfl rfl rfl (by kernel_rfl) (fun vs2 => ?_); refine Sq_pure (fun hl2 => ?_)))
  try any_goals (first | (refine Sq_nil ?_; try refine G_then ?_) | refine G_then ?_)
  try any_goals (first | refine H_condT rfl ?_ | refine H_condF rfl (Wt.un 3 ?_) | (refine H_cond _ rfl (fun hq => ?_) (fun hq => Wt.un 3 ?_) <;> (try simp only [hqs, reduceCtorEq] at hq)))
  try any_goals (first | (refine H_seq ?_; try refine H_reg ?_) | refine H_reg ?_)
  try any_goals (refine W_move (d := 17) (sq_stepper upC_sep) rfl rfl rfl ?_)
  try any_goals (refine W_assign (d := 4) (sq_stepper upC_sep) rfl rfl rfl ?_)
  try any_goals (first | (refine Sq_nil ?_; try refine G_then ?_) | refine G_then ?_)
  try any_goals (refine H_ret ?_)
  repeat (any_goals (first | refine G_ret_then ?_ | refine G_ret_block ?_))
  try any_goals (refine G_hold 4 ?_)
  try any_goals (refine Wt.out 3 ?_)
  try any_goals (refine H_skip ?_)
  try any_goals (refine Wt.out 4 ?_)
  repeat (any_goals (first | refine G_exit_then ?_ | refine G_exit_here ?_ | refine G_exit_far rfl ?_ | refine G_normal_block ?_))
  try any_goals (refine G_then ?_)
  try any_goals (refine H_reg ?_)
  try any_goals (refine W_ar (d := 18) (sq_stepper upC_sep) rfl rfl rfl rfl rfl (by first | omega | (dsimp only; omega)) ?_)
  try any_goals (refine W_move (d := 8) (sq_stepper upC_sep) rfl rfl rfl ?_)
  try any_goals (refine Sq_nil ?_)
  try any_goals (refine G_again (i + 1, vs2) ⟨by simp only; omega, fun j hj => ?_, hl2⟩ (by simp only; omega) (by repeat (first | exact trivial | refine ⟨⟨_, rfl, fun _ _ _ h => h⟩, ?_⟩ | refine ⟨⟨_, rfl, fun v w _ h => (show v = _ from h).trans (congrArg (Value.int .i64) (by first | omega | (dsimp only; omega)))⟩, ?_⟩)) (fun w' h => ?_))
  try any_goals (refine Wt.out 2 ?_)
  repeat (any_goals (first | refine G_exit_then ?_ | refine G_exit_here ?_ | refine G_exit_far rfl ?_ | refine G_normal_block ?_))
  try any_goals (refine G_then ?_)
  try any_goals (first | (refine H_seq ?_; try refine H_reg ?_) | refine H_reg ?_)
  try any_goals (refine W_assign (d := 4) (sq_stepper upC_sep) rfl rfl rfl ?_)
  try any_goals (first | (refine Sq_nil ?_; try refine G_then ?_) | refine G_then ?_)
  try any_goals (refine H_ret ?_)
  repeat (any_goals (first | refine G_ret_then ?_ | refine G_ret_block ?_))
  all_goals (try dsimp only)
  all_goals first
    | (rcases Nat.lt_or_ge j i with h1 | h1
       · exact hji j h1
       · have e : j = i := by omega
         subst e
         assumption)
    | (have hf : tkB dd.T (ix l (i : Int)) = false := by assumption
       rw [tkD_n hf] at h
       exact h)
    | (have ht : tkB dd.T (ix l (i : Int)) = true := by assumption
       have hfe := orF_at (w := l) (d := dd) (i := i) (by omega) ht hji
       have e1 : orS l dd = tkD dd (ix l (i : Int)) := by rw [orS, hfe, if_pos (by omega)]
       exact RX1 rfl rfl (fun v w' hc hv => ⟨vs2, ⟨by rw [e1]; exact hc, hl2⟩, by rw [hfe]; exact hv⟩))
    | (have hno := orF_no (w := l) (d := dd) (fun j hj => hji j (by omega))
       have e1 : orS l dd = dd := by rw [orS, hno, if_neg (by decide)]
       exact RX1 rfl rfl (fun v w' hc hv => ⟨vs1, ⟨by rw [e1]; exact hc, hl1⟩, by rw [hno]; exact hv⟩))
    | trace_state
/-! What is asked. -/
def doP (d : Dep) (w : List Int) (i : Int) : Bool := decide (0 ≤ plI d.T (ix w i) ∧ (i = 0 ∨ ix w (i - 1) < ix w i))
def doA (d : Dep) (w : List Int) : Bool := depB d && allB w.length (doP d w)
theorem doP_y {d : Dep} {w : List Int} {i : Int} (h : 0 ≤ plI d.T (ix w i)) (h2 : i = 0 ∨ ix w (i - 1) < ix w i) : doP d w i = true := decide_eq_true ⟨h, h2⟩
theorem doP_n {d : Dep} {w : List Int} {i : Int} (h : plI d.T (ix w i) < 0 ∨ (¬ i = 0 ∧ ix w i ≤ ix w (i - 1))) : doP d w i = false := decide_eq_false fun ⟨h1, h2⟩ => by rcases h with h | h <;> omega
theorem doA_k {d : Dep} {w : List Int} (h : doA d w = true) : depB d = true ∧ w.Nodup ∧ ∀ x ∈ w, 0 ≤ plI d.T x := by
  simp only [doA, Bool.and_eq_true] at h
  obtain ⟨h1, h2⟩ := h
  have h3 := fun j hj => of_decide_eq_true (allB_t.1 h2 j hj)
  have hlt : ∀ {j i : Nat}, i < j → j < w.length → ix w (i : Int) < ix w (j : Int) := by
    intro j
    induction j with
    | zero => intro i hi; exact absurd hi (Nat.not_lt_zero _)
    | succ j ih =>
      intro i hi hj
      have h4 := (h3 (j + 1) (by omega)).2
      rw [show (((j + 1 : Nat) : Int)) - 1 = (j : Int) by omega] at h4
      rcases Nat.lt_or_ge i j with h5 | h5
      · have := ih h5 (by omega)
        omega
      · have e : i = j := by omega
        subst e
        omega
  refine ⟨h1, List.pairwise_iff_getElem.2 fun i j hi hj hij he => ?_, fun x hx => ?_⟩
  · have := hlt hij hj
    rw [ix_elem hi, ix_elem hj] at this
    omega
  · obtain ⟨j, hj, e⟩ := List.mem_iff_getElem.1 hx
    have := (h3 j (by omega)).1
    rwa [ix_elem hj, e] at this
theorem doA_d {d : Dep} {w : List Int} (h : depB d = false) : doA d w = false := by rw [doA, h]; rfl
theorem doA_n {d : Dep} {w : List Int} {i : Nat} (hi : i < w.length) (h : doP d w (i : Int) = false) : doA d w = false := by rw [doA, allB_f (by omega) (by omega) h, Bool.and_false]
theorem doA_y {d : Dep} {w : List Int} (hb : depB d = true) (h : ∀ j : Nat, j < w.length → doP d w (j : Int) = true) : doA d w = true := by rw [doA, hb, allB_t.2 fun j hj => h j (by omega)]; rfl
def doR (d : Dep) (w : List Int) : List Int := if doA d w then orR w d else []
def doO (d : Dep) (w : List Int) : Bool := doA d w && orO w d
theorem do_n {d : Dep} {w : List Int} (h : doA d w = false) : doR d w = [] ∧ doO d w = false := by simp [doR, doO, h]
theorem do_y {d : Dep} {w : List Int} (h : doA d w = true) : doR d w = orR w d ∧ doO d w = orO w d := by simp [doR, doO, h]
theorem or_start {q w' : World} {d : Dep} {w0 : List Int} {g : Nat} {vS vT v : Value} {vs : List Value} (hin : ∀ x ∈ w0, 0 ≤ plI d.T x) (h : Sep q (shK g d vS vT vs [.sl Int 3 pI w0 v]) w') : Sep q (shK g d vS vT vs [.sl Int 3 pI (orL w0 d) v, .sl Int 3 pI [] (.slice none 0 0)]) w' := by
  have e : orL w0 d = w0 := List.filter_eq_self.2 fun x hx => decide_eq_true (hin x hx)
  rw [e]
  have h1 := (h.nil Int 3 pI).perm (List.perm_append_singleton _ _).symm
  simpa using h1
set_option maxHeartbeats 2000000 in
theorem cg_iOr {e : Option TypeId} (d : Dep) (w0 : List Int) (hf : DepF d) (hwl : w0.length ≤ 1048576) : CTG Try.prog 26 [.inr (uA bDep d), .inr (uS e pI w0)] (fun s => .inr (uT [.inr (uO s oIntS (doR d w0)), .inl (.bool (doO d w0)), .inl (.bool (doA d w0))])) := by
  have hft := hf.t
  refine CTG_of Try.func26 rfl rfl rfl (fun w s hs => ?_)
  have hC := upC_ext w
  try any_goals (refine H_seq ?_)
  try any_goals (have hE : Ext _ _ := Ext.refl w)
  try any_goals (refine H_open 0 rfl (fun q u0 hw hr0 => ?_); have hE := hE.trans hw)
  try any_goals (refine H_open 1 rfl (fun q u1 hw hr1 => ?_); have hE := hE.trans hw; have hr0 := UR.lift hw hr0)
  try any_goals (refine H_weakenC (C' := Sep q []) (fun w' h => sep_start h) ?_; have hC : UpC (Sep q []) := upC_sep)
  try any_goals (obtain ⟨cs0, rfl, hf0⟩ := id hr0)
  try any_goals (obtain ⟨_, _, rfl, ⟨vS0, rfl, hiS⟩, _, _, rfl, ⟨vT0, rfl, hiT⟩, rfl⟩ := hf0)
  try any_goals (refine H_reg ?_)
  try any_goals (refine Sq_boxS (d := 2) (cs := [vS0, vT0]) rfl rfl (fun g2 => ?_))
  try any_goals (refine W_assign (d := 4) (sq_stepper upC_sep) rfl rfl rfl ?_)
  try any_goals (refine W_assign (d := 5) (sq_stepper upC_sep) rfl rfl rfl ?_)
  try any_goals (refine W_assign (d := 6) (sq_stepper upC_sep) rfl rfl rfl ?_)
  try any_goals (first | (refine Sq_nil ?_; try refine G_then ?_) | refine G_then ?_)
  try any_goals (refine H_seq ?_)
  try any_goals (first | (refine H_seq ?_; try refine H_reg ?_) | refine H_reg ?_)
  try any_goals ((refine W_loadRawA (d := 14) 0 (sq_stepper upC_sep) rfl (by kernel_rfl) rfl rfl rfl rfl ?_; refine Sq_asU 14 (uA bDep d) rfl (fun w' h => UR.lift (Sep.ext h) hr0) ?_))
  try any_goals (refine W_ct (d := 15) (sq_stepper upC_sep) (ct_iDep _) rfl rfl rfl (by kernel_rfl) ?_)
  try any_goals (refine W_not (d := 16) (sq_stepper upC_sep) rfl rfl rfl ?_)
  try any_goals (first | (refine Sq_nil ?_; try refine G_then ?_) | refine G_then ?_)
  try any_goals (first | refine H_condT rfl ?_ | refine H_condF rfl (Wt.un 0 ?_) | (refine H_cond _ rfl (fun hq => ?_) (fun hq => Wt.un 0 ?_) <;> (try simp only [hqs, reduceCtorEq] at hq)))
  try any_goals (first | (refine H_seq ?_; try refine H_reg ?_) | refine H_reg ?_)
  try any_goals (refine W_assign (d := 4) (sq_stepper upC_sep) rfl rfl rfl ?_)
  try any_goals (refine W_assign (d := 5) (sq_stepper upC_sep) rfl rfl rfl ?_)
  try any_goals (refine W_assign (d := 6) (sq_stepper upC_sep) rfl rfl rfl ?_)
  try any_goals (first | (refine Sq_nil ?_; try refine G_then ?_) | refine G_then ?_)
  try any_goals (refine H_ret ?_)
  repeat (any_goals (first | refine G_ret_then ?_ | refine G_ret_block ?_))
  try any_goals (refine G_hold 1 ?_)
  try any_goals (refine Wt.out 0 ?_)
  try any_goals (refine H_skip ?_)
  try any_goals (refine Wt.out 1 ?_)
  try any_goals (refine G_then ?_)
  try any_goals (refine H_seq ?_)
  try any_goals (first | (refine H_seq ?_; try refine H_reg ?_) | refine H_reg ?_)
  try any_goals (refine W_move (d := 17) (sq_stepper upC_sep) rfl rfl rfl ?_)
  try any_goals (refine W_lenR (d := 18) (sq_stepper upC_sep) (xs := w0) (fun w' h => UR.lift (Sep.ext h) hr1) (by kernel_rfl) rfl rfl rfl ?_)
  try any_goals (refine W_move (d := 19) (sq_stepper upC_sep) rfl rfl rfl ?_)
  try any_goals (first | (refine Sq_nil ?_; try refine G_then ?_) | refine G_then ?_)
  try any_goals (refine H_block ?_)
  try any_goals ((refine H_loop (σ := Nat) (fun i => i ≤ w0.length ∧ ∀ j : Nat, j < i → doP d w0 (j : Int) = true) (fun i => [(1, .inl u1), (2, .inl (.pointer (some ⟨g2, 0, none⟩))), (17, .inl u1), (18, .inl (.int .i64 w0.length)), (19, .inl (.int .i64 i))]) (fun _ => Sep q [.raw 29 g2 [vS0, vT0]]) (fun i => w0.length - i) 0 ⟨Nat.zero_le _, fun j hj => absurd hj (Nat.not_lt_zero _)⟩ (fun a w' h => h.sub (by repeat (first | exact trivial | refine ⟨⟨_, rfl, fun _ _ _ h => h⟩, ?_⟩ | refine ⟨⟨_, rfl, fun v w _ h => (show v = _ from h).trans (congrArg (Value.int .i64) (by first | omega | (dsimp only; omega)))⟩, ?_⟩)) (fun w' h => h)) (fun i hi => ?_); obtain ⟨hi, hji⟩ := hi))
  try any_goals (first | (refine H_seq ?_; try refine H_reg ?_) | refine H_reg ?_)
  try any_goals (first | refine W_cmp (d := 20) (sq_stepper upC_sep) rfl rfl rfl rfl rfl ?_ | refine W_strcmp (d := 20) (sq_stepper upC_sep) rfl rfl rfl rfl rfl ?_)
  try any_goals (first | (refine Sq_nil ?_; try refine G_then ?_) | refine G_then ?_)
  try any_goals (refine H_seq ?_)
  try any_goals (first | refine H_condT rfl ?_ | refine H_condF rfl (Wt.un 2 ?_) | (refine H_cond _ rfl (fun hq => ?_) (fun hq => Wt.un 2 ?_) <;> (try simp only [hqs, reduceCtorEq] at hq)))
  try any_goals (refine H_skip ?_)
  try any_goals (refine G_hold 3 ?_)
  try any_goals (refine Wt.out 2 ?_)
  try any_goals (refine H_exit ?_)
  repeat (any_goals (first | refine G_exit_then ?_ | refine G_exit_here ?_ | refine G_exit_far rfl ?_))
  try any_goals (refine G_hold 4 ?_)
  try any_goals (refine Wt.out 3 ?_)
  try any_goals (refine G_then ?_)
  try any_goals (refine H_seq ?_)
  try any_goals (refine H_block ?_)
  try any_goals (first | (refine H_seq ?_; try refine H_reg ?_) | refine H_reg ?_)
  try any_goals (refine W_move (d := 21) (sq_stepper upC_sep) rfl rfl rfl ?_)
  try any_goals (refine W_indexR (d := 22) (sq_stepper upC_sep) (xs := w0) (fun w' h => UR.lift (Sep.ext h) hr1) (by kernel_rfl) rfl rfl rfl rfl ⟨by omega, by omega⟩ ?_)
  try any_goals (refine W_loadI (d := 23) (sq_stepper upC_sep) (by kernel_rfl) rfl rfl rfl ?_)
  try any_goals (refine W_assign (d := 7) (sq_stepper upC_sep) rfl rfl rfl ?_)
  try any_goals (refine W_assign (d := 8) (sq_stepper upC_sep) rfl rfl rfl ?_)
  try any_goals (first | (refine Sq_nil ?_; try refine G_then ?_) | refine G_then ?_)
  try any_goals (first | (refine H_seq ?_; try refine H_reg ?_) | refine H_reg ?_)
  try any_goals (first | refine W_fieldG (d := 25) (sq_stepper upC_sep) (Proj.tail _ _ (Proj.head _ _ _)) (by kernel_rfl) rfl rfl rfl ?_ | refine W_fieldC (d := 25) (sq_stepper upC_sep) (off := 1) (by kernel_rfl) rfl rfl rfl ?_)
  try any_goals (refine W_loadRaw (d := 26) 0 (sq_stepper upC_sep) rfl (by kernel_rfl) rfl rfl rfl rfl ?_; refine Sq_asU 26 (uS (some 22) (pS (some 3) pI) d.T) rfl (fun w' h => IsS.up (Sep.ext h) hiT) ?_)
  try any_goals (refine W_move (d := 27) (sq_stepper upC_sep) rfl rfl rfl ?_)
  try any_goals (refine W_ct (d := 28) (sq_stepper upC_sep) (ct_placeIn d.T _ hft) rfl rfl rfl (by kernel_rfl) ?_)
  try any_goals (refine W_move (d := 24) (sq_stepper upC_sep) rfl rfl rfl ?_)
  try any_goals (refine W_extract (d := 29) (sq_stepper upC_sep) rfl rfl rfl rfl ?_)
  try any_goals (refine W_extract (d := 30) (sq_stepper upC_sep) rfl rfl rfl rfl ?_)
  try any_goals (refine W_assign (d := 9) (sq_stepper upC_sep) rfl rfl rfl ?_)
  try any_goals (refine W_assign (d := 10) (sq_stepper upC_sep) rfl rfl rfl ?_)
  try any_goals (first | (refine Sq_nil ?_; try refine G_then ?_) | refine G_then ?_)
  try any_goals (first | (refine H_seq ?_; try refine H_reg ?_) | refine H_reg ?_)
  try any_goals (refine W_move (d := 31) (sq_stepper upC_sep) rfl rfl rfl ?_)
  try any_goals (first | refine W_cmp (d := 32) (sq_stepper upC_sep) rfl rfl rfl rfl rfl ?_ | refine W_strcmp (d := 32) (sq_stepper upC_sep) rfl rfl rfl rfl rfl ?_)
  try any_goals (refine W_move (d := 33) (sq_stepper upC_sep) rfl rfl rfl ?_)
  try any_goals (first | refine W_gT (d := 34) (sq_stepper upC_sep) _ rfl rfl ?_ | refine W_gF (d := 34) (sq_stepper upC_sep) _ rfl rfl ?_ | (refine W_splitG (sq_stepper upC_sep) _ rfl _ rfl (fun hq => ?_) (fun hq => ?_) <;> ((try simp only [hqs, reduceCtorEq] at hq); try (have hq' := hq; clear hq))))
  try any_goals (first | refine W_skip (d := 34) (sq_stepper upC_sep) rfl rfl ?_ | refine W_move (d := 34) (sq_stepper upC_sep) rfl rfl rfl ?_)
  try any_goals (first | refine W_skip (d := 35) (sq_stepper upC_sep) rfl rfl ?_ | refine W_cmp (d := 35) (sq_stepper upC_sep) rfl rfl rfl rfl rfl ?_ | refine W_strcmp (d := 35) (sq_stepper upC_sep) rfl rfl rfl rfl rfl ?_)
  try any_goals (first | refine W_skip (d := 36) (sq_stepper upC_sep) rfl rfl ?_ | refine W_move (d := 36) (sq_stepper upC_sep) rfl rfl rfl ?_)
  try any_goals (first | refine W_gT (d := 37) (sq_stepper upC_sep) _ rfl rfl ?_ | refine W_gF (d := 37) (sq_stepper upC_sep) _ rfl rfl ?_ | (refine W_splitG (sq_stepper upC_sep) _ rfl _ rfl (fun hq => ?_) (fun hq => ?_) <;> ((try simp only [hqs, reduceCtorEq] at hq); try (have hq' := hq; clear hq))))
  try any_goals (first | refine W_skip (d := 37) (sq_stepper upC_sep) rfl rfl ?_ | refine W_moveR (d := 37) (sq_stepper upC_sep) (U := uS e pI w0) (fun w' h => UR.lift (Sep.ext h) hr1) rfl rfl rfl ?_ | refine W_move (d := 37) (sq_stepper upC_sep) rfl rfl rfl ?_)
  try any_goals (first | refine W_skip (d := 38) (sq_stepper upC_sep) rfl rfl ?_ | refine W_move (d := 38) (sq_stepper upC_sep) rfl rfl rfl ?_)
  try any_goals (first | refine W_skip (d := 39) (sq_stepper upC_sep) rfl rfl ?_ | refine W_ar (d := 39) (sq_stepper upC_sep) rfl rfl rfl rfl rfl (by first | omega | (dsimp only; omega)) ?_)
  try any_goals (first | refine W_skip (d := 40) (sq_stepper upC_sep) rfl rfl ?_ | refine W_index (d := 40) (sq_stepper upC_sep) (by kernel_rfl) rfl rfl rfl rfl (by first | omega | (dsimp only; omega)) ?_)
  try any_goals (first | refine W_skip (d := 41) (sq_stepper upC_sep) rfl rfl ?_ | refine W_loadI (d := 41) (sq_stepper upC_sep) (by kernel_rfl) rfl rfl rfl ?_)
  try any_goals (first | refine W_skip (d := 42) (sq_stepper upC_sep) rfl rfl ?_ | refine W_move (d := 42) (sq_stepper upC_sep) rfl rfl rfl ?_)
  try any_goals (first | refine W_skip (d := 43) (sq_stepper upC_sep) rfl rfl ?_ | refine W_cmp (d := 43) (sq_stepper upC_sep) rfl rfl rfl rfl rfl ?_ | refine W_strcmp (d := 43) (sq_stepper upC_sep) rfl rfl rfl rfl rfl ?_)
  try any_goals (first | refine W_skip (d := 44) (sq_stepper upC_sep) rfl rfl ?_ | refine W_pickT (d := 44) (sq_stepper upC_sep) rfl rfl rfl rfl ?_ | refine W_pickF (d := 44) (sq_stepper upC_sep) rfl rfl rfl rfl ?_)
  try any_goals (first | refine W_pickT (d := 45) (sq_stepper upC_sep) rfl rfl rfl rfl ?_ | refine W_pickF (d := 45) (sq_stepper upC_sep) rfl rfl rfl rfl ?_)
  try any_goals (first | (refine Sq_nil ?_; try refine G_then ?_) | refine G_then ?_)
  try any_goals (first | refine H_condT rfl ?_ | refine H_condF rfl (Wt.un 5 ?_) | (refine H_cond _ rfl (fun hq => ?_) (fun hq => Wt.un 5 ?_) <;> (try simp only [hqs, reduceCtorEq] at hq)))
  try any_goals (first | (refine H_seq ?_; try refine H_reg ?_) | refine H_reg ?_)
  try any_goals (refine W_assign (d := 4) (sq_stepper upC_sep) rfl rfl rfl ?_)
  try any_goals (refine W_assign (d := 5) (sq_stepper upC_sep) rfl rfl rfl ?_)
  try any_goals (refine W_assign (d := 6) (sq_stepper upC_sep) rfl rfl rfl ?_)
  try any_goals (first | (refine Sq_nil ?_; try refine G_then ?_) | refine G_then ?_)
  try any_goals (refine H_ret ?_)
  repeat (any_goals (first | refine G_ret_then ?_ | refine G_ret_block ?_))
  try any_goals (refine G_hold 6 ?_)
  try any_goals (refine Wt.out 5 ?_)
  try any_goals (refine H_skip ?_)
  try any_goals (refine Wt.out 6 ?_)
  repeat (any_goals (first | refine G_exit_then ?_ | refine G_exit_here ?_ | refine G_exit_far rfl ?_ | refine G_normal_block ?_))
  try any_goals (refine G_then ?_)
  try any_goals (refine H_reg ?_)
  try any_goals (refine W_ar (d := 46) (sq_stepper upC_sep) rfl rfl rfl rfl rfl (by first | omega | (dsimp only; omega)) ?_)
  try any_goals (refine W_move (d := 19) (sq_stepper upC_sep) rfl rfl rfl ?_)
  try any_goals (refine Sq_nil ?_)
  try any_goals (refine G_again (i + 1) ⟨by omega, fun j hj => ?_⟩ (by omega) (by repeat (first | exact trivial | refine ⟨⟨_, rfl, fun _ _ _ h => h⟩, ?_⟩ | refine ⟨⟨_, rfl, fun v w _ h => (show v = _ from h).trans (congrArg (Value.int .i64) (by first | omega | (dsimp only; omega)))⟩, ?_⟩)) (fun w' h => h))
  try any_goals (refine Wt.out 4 ?_)
  repeat (any_goals (first | refine G_exit_then ?_ | refine G_exit_here ?_ | refine G_exit_far rfl ?_ | refine G_normal_block ?_))
  try any_goals (refine G_then ?_)
  try any_goals (refine H_seq ?_)
  try any_goals (have hbt : depB d = true := (by assumption); have hA := doA_y hbt (fun j hj => hji j (by omega)); have hdd := DvI.of hbt; have hnn := DvN.of hbt; have hAk := doA_k hA; have hgoI := fun m hm => OrI.go hdd hnn hAk.2.1 hAk.2.2 (m := m) hm)
  try any_goals (refine H_reg ?_)
  try any_goals ((refine W_loadRawA (d := 47) 0 (sq_stepper upC_sep) rfl (by kernel_rfl) rfl rfl rfl rfl ?_; refine Sq_asU 47 (uA bDep d) rfl (fun w' h => UR.lift (Sep.ext h) hr0) ?_))
  try any_goals ((refine Sq_ctxD (fun w1 => cx_copyDep d hf w1) rfl rfl (by kernel_rfl) (fun y hl => ?_); obtain ⟨vS, vT, vs⟩ := y; have hl : vs.length = d.T.length := hl))
  try any_goals (refine Sq_cls (fun wq hq => ?_); have hone := dp_one hq; refine Sq_storeRaw (dpL d vS vT vs).length (k := 2) (vs := [vS, vT]) get_mid (avAll_dp (L0 := [_]) ⟨trivial, trivial⟩) (by kernel_rfl) rfl rfl rfl (raw_ag hone) (Nat.le_refl _) ?_; refine Sq_weaken (C' := Sep q (shK g2 d vS vT vs [])) (fun w' h => by rw [set_mid rfl] at h; exact h) ?_)
  try any_goals (first | (refine Sq_nil ?_; try refine G_then ?_) | refine G_then ?_)
  try any_goals (first | (refine H_seq ?_; try refine H_reg ?_) | refine H_reg ?_)
  try any_goals (refine W_assign (d := 11) (sq_stepper upC_sep) rfl rfl rfl ?_)
  try any_goals (first | (refine Sq_nil ?_; try refine G_then ?_) | refine G_then ?_)
  try any_goals (refine H_seq ?_)
  try any_goals (first | (refine H_seq ?_; try refine H_reg ?_) | refine H_reg ?_)
  try any_goals (refine W_moveR (d := 49) (sq_stepper upC_sep) (U := uS e pI w0) (fun w' h => UR.lift (Sep.ext h) hr1) rfl rfl rfl ?_)
  try any_goals ((refine Sq_callS (cg_cloneI w0 hwl) rfl rfl (by kernel_rfl) (fun v50 => ?_); refine Sq_weaken (C' := Sep q (shK g2 d vS vT vs [.sl Int 3 pI w0 v50])) (fun w' h => h.perm (List.perm_middle.symm.trans (List.Perm.append_left _ (List.Perm.swap _ _ _)))) ?_))
  try any_goals (refine W_assign (d := 12) (sq_stepper upC_sep) rfl rfl rfl ?_)
  try any_goals (first | (refine Sq_nil ?_; try refine G_then ?_) | refine G_then ?_)
  try any_goals (refine H_block ?_)
  try any_goals ((refine H_loop (σ := Nat × (Value × Value) × List Value) (fun x => x.1 ≤ w0.length ∧ (∀ j, j < x.1 → 0 ≤ orF w0 (orD w0 d j)) ∧ x.2.2.length = (orD w0 d x.1).T.length) (fun x => [(2, .inl (.pointer (some ⟨g2, 0, none⟩))), (11, .inl x.2.1.2), (12, .inl x.2.1.1)]) (fun x => Sep q (shK g2 (orD w0 d x.1) vS vT x.2.2 [.sl Int 3 pI (orL w0 (orD w0 d x.1)) x.2.1.1, .sl Int 3 pI (orX w0 d x.1) x.2.1.2])) (fun x => w0.length - x.1) (0, (v50, .slice none 0 0), vs) ⟨Nat.zero_le _, fun j hj => absurd hj (Nat.not_lt_zero _), hl⟩ (fun a w' h => h.sub (by repeat (first | exact trivial | refine ⟨⟨_, rfl, fun _ _ _ h => h⟩, ?_⟩ | refine ⟨⟨_, rfl, fun v w _ h => (show v = _ from h).trans (congrArg (Value.int .i64) (by first | omega | (dsimp only; omega)))⟩, ?_⟩)) (fun w' h => or_start hAk.2.2 h)) (fun x hx => ?_); obtain ⟨m, ⟨vl, vo⟩, vs1⟩ := x; obtain ⟨hm, hfj, hl1⟩ := hx; simp only at hm hfj hl1; have hI := hgoI m hfj; have hxl := orX_len (w := w0) (d := d) (m := m); have hll := hI.l; have hfb := orF_bd (w := orL w0 (orD w0 d m)) (d := orD w0 d m)))
  try any_goals (refine H_seq ?_)
  try any_goals (first | (refine H_seq ?_; try refine H_reg ?_) | refine H_reg ?_)
  try any_goals (refine W_move (d := 51) (sq_stepper upC_sep) rfl rfl rfl ?_)
  try any_goals (refine W_lenS (d := 52) ((dpL (orD w0 d m) vS vT vs1).length + 1) (sq_stepper upC_sep) (get_mk rfl) (by kernel_rfl) rfl rfl rfl ?_)
  try any_goals (first | refine W_cmp (d := 53) (sq_stepper upC_sep) rfl rfl rfl rfl rfl ?_ | refine W_strcmp (d := 53) (sq_stepper upC_sep) rfl rfl rfl rfl rfl ?_)
  try any_goals (first | (refine Sq_nil ?_; try refine G_then ?_) | refine G_then ?_)
  try any_goals (first | refine H_condT rfl ?_ | refine H_condF rfl (Wt.un 7 ?_) | (refine H_cond _ rfl (fun hq => ?_) (fun hq => Wt.un 7 ?_) <;> (try simp only [hqs, reduceCtorEq] at hq)))
  try any_goals (refine H_skip ?_)
  try any_goals (refine G_hold 8 ?_)
  try any_goals (refine Wt.out 7 ?_)
  try any_goals (refine H_exit ?_)
  repeat (any_goals (first | refine G_exit_then ?_ | refine G_exit_here ?_ | refine G_exit_far rfl ?_))
  try any_goals (refine G_hold 9 ?_)
  try any_goals (refine Wt.out 8 ?_)
  try any_goals (refine G_then ?_)
  try any_goals (refine H_block ?_)
  try any_goals (first | (refine H_seq ?_; try refine H_reg ?_) | refine H_reg ?_)
  try any_goals (refine W_move (d := 54) (sq_stepper upC_sep) rfl rfl rfl ?_)
  try any_goals (refine W_makeFunV (d := 55) (sq_stepper upC_sep) [.pointer (some ⟨g2, 0, none⟩)] rfl rfl rfl ?_)
  try any_goals ((refine Sq_ctx (cx_orIdx (orD w0 d m) (orL w0 (orD w0 d m)) vl g2 vS vT vs1 hl1 hI.v (L := [.sl Int 3 pI (orX w0 d m) vo]) ⟨trivial, trivial⟩ (by omega)) rfl rfl (by kernel_rfl) (fun vs2 => ?_); refine Sq_pure (fun hl2 => ?_); refine Sq_weaken (C' := Sep q (shK g2 (orS (orL w0 (orD w0 d m)) (orD w0 d m)) vS vT vs2 [.sl Int 3 pI (orL w0 (orD w0 d m)) vl, .sl Int 3 pI (orX w0 d m) vo])) (fun w' h => h) ?_))
  try any_goals (refine W_assign (d := 13) (sq_stepper upC_sep) rfl rfl rfl ?_)
  try any_goals (first | (refine Sq_nil ?_; try refine G_then ?_) | refine G_then ?_)
  try any_goals (refine H_seq ?_)
  try any_goals (first | (refine H_seq ?_; try refine H_reg ?_) | refine H_reg ?_)
  try any_goals (refine W_move (d := 57) (sq_stepper upC_sep) rfl rfl rfl ?_)
  try any_goals (first | refine W_cmp (d := 58) (sq_stepper upC_sep) rfl rfl rfl rfl rfl ?_ | refine W_strcmp (d := 58) (sq_stepper upC_sep) rfl rfl rfl rfl rfl ?_)
  try any_goals (first | (refine Sq_nil ?_; try refine G_then ?_) | refine G_then ?_)
  try any_goals (first | refine H_condT rfl ?_ | refine H_condF rfl (Wt.un 10 ?_) | (refine H_cond _ rfl (fun hq => ?_) (fun hq => Wt.un 10 ?_) <;> (try simp only [hqs, reduceCtorEq] at hq)))
  try any_goals (first | (refine H_seq ?_; try refine H_reg ?_) | refine H_reg ?_)
  try any_goals (refine W_assign (d := 4) (sq_stepper upC_sep) rfl rfl rfl ?_)
  try any_goals (refine W_assign (d := 5) (sq_stepper upC_sep) rfl rfl rfl ?_)
  try any_goals (refine W_assign (d := 6) (sq_stepper upC_sep) rfl rfl rfl ?_)
  try any_goals (first | (refine Sq_nil ?_; try refine G_then ?_) | refine G_then ?_)
  try any_goals (refine H_ret ?_)
  repeat (any_goals (first | refine G_ret_then ?_ | refine G_ret_block ?_))
  try any_goals (refine G_hold 11 ?_)
  try any_goals (refine Wt.out 10 ?_)
  try any_goals (refine H_skip ?_)
  try any_goals (refine Wt.out 11 ?_)
  try any_goals (refine G_then ?_)
  try any_goals (refine H_seq ?_)
  try any_goals ((obtain ⟨hl3, hl4⟩ := orF_L (w := w0) (d := orD w0 d m)); have hk0 : 0 ≤ orF w0 (orD w0 d m) := (by rcases Int.lt_or_le (orF w0 (orD w0 d m)) 0 with h | h; (exfalso; have := hl3.2 h; omega); exact h); have hel := hl4 hk0; have hIs := hI.s hAk.2.1 hk0; have e1 : orS (orL w0 (orD w0 d m)) (orD w0 d m) = orD w0 d (m + 1) := (by rw [orS, if_pos (by omega), hel]; rfl); have e2 : orL w0 (orD w0 d (m + 1)) = cnX (orL w0 (orD w0 d m)) (orF (orL w0 (orD w0 d m)) (orD w0 d m)) := (hIs.2.trans (cnX_erase (by omega)).symm); have e3 : orX w0 d (m + 1) = orX w0 d m ++ [ix (orL w0 (orD w0 d m)) (orF (orL w0 (orD w0 d m)) (orD w0 d m))] := (by rw [orX, hel]); have hl5 : vs2.length = (orD w0 d (m + 1)).T.length := (by rw [← e1, orS_l]; exact hl2))
  try any_goals (rw [e1])
  try any_goals (refine H_reg ?_)
  try any_goals (refine W_move (d := 59) (sq_stepper upC_sep) rfl rfl rfl ?_)
  try any_goals (refine W_move (d := 60) (sq_stepper upC_sep) rfl rfl rfl ?_)
  try any_goals (refine W_move (d := 61) (sq_stepper upC_sep) rfl rfl rfl ?_)
  try any_goals (refine W_idxS1 (d := 62) ((dpL (orD w0 d (m + 1)) vS vT vs2).length + 1) (sq_stepper upC_sep) (get_mk rfl) rfl (by kernel_rfl) rfl rfl rfl rfl ⟨by omega, by omega⟩ ?_)
  try any_goals (refine W_loadSI (d := 63) ((dpL (orD w0 d (m + 1)) vS vT vs2).length + 1) (sq_stepper upC_sep) (get_mk rfl) ⟨by omega, by omega⟩ (by kernel_rfl) rfl rfl rfl ?_)
  try any_goals (refine W_buildS (d := 64) (sq_stepper upC_sep) [(Operand.tmp 63)] pI [_] (e := 3) (by kernel_rfl) (by kernel_rfl) rfl rfl (by kernel_rfl) rfl rfl rfl ⟨elem_I, trivial⟩ ?_)
  try any_goals (refine Sq_appS (d := 65) ((dpL (orD w0 d (m + 1)) vS vT vs2).length + 2) (Ψ := pI) (get_mk rfl) (avAll_dp (L0 := .raw _ _ _ :: _) ⟨trivial, trivial, trivial, trivial⟩) (by kernel_rfl) (by kernel_rfl) rfl rfl rfl ⟨by simp only [List.length_cons, List.length_nil]; omega, by simp⟩ (fun vb => ?_); refine Sq_weaken (C' := Sep q (shK g2 (orD w0 d (m + 1)) vS vT vs2 [.sl Int 3 pI (orL w0 (orD w0 d m)) vl, .sl Int 3 pI (orX w0 d (m + 1)) vb])) (fun w' h => by rw [set_mk] at h; rw [e3]; exact h) ?_)
  try any_goals (refine W_assign (d := 11) (sq_stepper upC_sep) rfl rfl rfl ?_)
  try any_goals (first | (refine Sq_nil ?_; try refine G_then ?_) | refine G_then ?_)
  try any_goals (refine H_reg ?_)
  try any_goals (refine W_move (d := 66) (sq_stepper upC_sep) rfl rfl rfl ?_)
  try any_goals (refine W_move (d := 67) (sq_stepper upC_sep) rfl rfl rfl ?_)
  try any_goals (refine W_move (d := 68) (sq_stepper upC_sep) rfl rfl rfl ?_)
  try any_goals (refine W_ar (d := 69) (sq_stepper upC_sep) rfl rfl rfl rfl rfl (by first | omega | (dsimp only; omega)) ?_)
  try any_goals ((refine Sq_ctx (cx_DelI ((dpL (orD w0 d (m + 1)) vS vT vs2).length + 1) (orF (orL w0 (orD w0 d m)) (orD w0 d m)) (L := shK g2 (orD w0 d (m + 1)) vS vT vs2 [.sl Int 3 pI (orL w0 (orD w0 d m)) vl, .sl Int 3 pI (orX w0 d (m + 1)) vb]) (get_mk rfl) (avAll_dp (L0 := .raw _ _ _ :: _) ⟨trivial, trivial, trivial, trivial⟩) ⟨by omega, by omega⟩) rfl rfl (by kernel_rfl) (fun vd => ?_); refine Sq_weaken (C' := Sep q (shK g2 (orD w0 d (m + 1)) vS vT vs2 [.sl Int 3 pI (orL w0 (orD w0 d (m + 1))) vd, .sl Int 3 pI (orX w0 d (m + 1)) vb])) (fun w' h => by rw [set_mk] at h; rw [e2]; exact h) ?_))
  try any_goals (refine W_assign (d := 12) (sq_stepper upC_sep) rfl rfl rfl ?_)
  try any_goals (refine Sq_nil ?_)
  repeat (any_goals (first | refine G_exit_then ?_ | refine G_exit_here ?_ | refine G_exit_far rfl ?_ | refine G_normal_block ?_))
  try any_goals (refine G_again (m + 1, (vd, vb), vs2) ⟨by simp only; omega, fun j hj => ?_, hl5⟩ (by simp only; omega) (by repeat (first | exact trivial | refine ⟨⟨_, rfl, fun _ _ _ h => h⟩, ?_⟩ | refine ⟨⟨_, rfl, fun v w _ h => (show v = _ from h).trans (congrArg (Value.int .i64) (by first | omega | (dsimp only; omega)))⟩, ?_⟩)) (fun w' h => h))
  try any_goals (refine Wt.out 9 ?_)
  repeat (any_goals (first | refine G_exit_then ?_ | refine G_exit_here ?_ | refine G_exit_far rfl ?_ | refine G_normal_block ?_))
  try any_goals (refine G_then ?_)
  try any_goals (first | (refine H_seq ?_; try refine H_reg ?_) | refine H_reg ?_)
  try any_goals (refine W_move (d := 71) (sq_stepper upC_sep) rfl rfl rfl ?_)
  try any_goals (refine W_assign (d := 4) (sq_stepper upC_sep) rfl rfl rfl ?_)
  try any_goals (refine W_assign (d := 5) (sq_stepper upC_sep) rfl rfl rfl ?_)
  try any_goals (refine W_assign (d := 6) (sq_stepper upC_sep) rfl rfl rfl ?_)
  try any_goals (first | (refine Sq_nil ?_; try refine G_then ?_) | refine G_then ?_)
  try any_goals (refine H_ret ?_)
  repeat (any_goals (first | refine G_ret_then ?_ | refine G_ret_block ?_))
  all_goals (try dsimp only)
  all_goals first
    | (have h0 : depB d = false := by assumption
       have hA0 := doA_d (w := w0) h0
       obtain ⟨h1, h2⟩ := do_n hA0
       exact R3 rfl (fun _ h => hE.trans h.ext) rfl rfl rfl (fun v w' _ hv => by rw [h1, show v = _ from hv]; exact nil_OS) (fun v w' _ hv => by rw [h2]; exact hv) (fun v w' _ hv => by rw [hA0]; exact hv))
    | (rcases Nat.lt_or_ge j i with h1 | h1
       · exact hji j h1
       · have e : j = i := by omega
         subst e
         exact doP_y (by omega) (by omega))
    | (rcases Nat.lt_or_ge j m with h1 | h1
       · exact hfj j h1
       · have e : j = m := by omega
         subst e
         exact hk0)
    | (have ho := orO_n (w := w0) (d := d) (m := m) (by omega) (by have := (orF_L (w := w0) (d := orD w0 d m)).1; first | exact this.1 (by assumption) | exact this.1 (by omega))
       obtain ⟨h1, h2⟩ := do_y hA
       rw [ho] at h2
       rw [orR_n ho] at h1
       exact R3 rfl (fun _ h => hE.trans h.ext) rfl rfl rfl (fun v w' _ hv => by rw [h1, show v = _ from hv]; exact nil_OS) (fun v w' _ hv => by rw [h2]; exact hv) (fun v w' _ hv => by rw [hA]; exact hv))
    | (have e : m = w0.length := by omega
       have ho : orO w0 d = true := orO_y (by rw [← e]; exact hfj)
       obtain ⟨h1, h2⟩ := do_y hA
       rw [ho] at h2
       rw [orR_y ho, ← e] at h1
       exact R3 rfl (fun _ h => hE.trans h.ext) rfl rfl rfl (fun v w' hc hv => by rw [h1, show v = _ from hv]; exact hc.isO (m := (dpL (orD w0 d m) vS vT vs1).length + 2) (get_mk rfl) (Nat.le_trans hs hE.size)) (fun v w' _ hv => by rw [h2]; exact hv) (fun v w' _ hv => by rw [hA]; exact hv))
    | (have hA0 := doA_n (d := d) (w := w0) (i := i) (by omega) (doP_n (by omega))
       obtain ⟨h1, h2⟩ := do_n hA0
       exact R3 rfl (fun _ h => hE.trans h.ext) rfl rfl rfl (fun v w' _ hv => by rw [h1, show v = _ from hv]; exact nil_OS) (fun v w' _ hv => by rw [h2]; exact hv) (fun v w' _ hv => by rw [hA0]; exact hv))
    | trace_state
end Go.Proofs.Ytbipnenkgkebjaa

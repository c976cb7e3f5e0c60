/- Runs: found, copied, changed. -/
import Derived.Test.YtikijhclakccpaaRun
import Derived.Test.YtikijhclakccpaaVals
namespace Go.Proofs.Ytikijhclakccpaa
set_option linter.unusedSimpArgs false
set_option linter.unusedVariables false
open Go.RowKit Go.ChangeShapes Go.WideShapes Go.ChangeAt Go.Deep
/-- The index of the run of a trip. -/
def fndR (xs : List Rn) (id : Int) : Int := firstI (fun j => decide ((ix xs j).T = id)) xs.length
theorem fndR_bd {xs : List Rn} {id : Int} : -1 ≤ fndR xs id ∧ fndR xs id < xs.length := firstI_bd
theorem fndR_val {xs : List Rn} {id : Int} (h : 0 ≤ fndR xs id) : (ix xs (fndR xs id)).T = id := by
  have h1 := firstI_val (q := fun j : Nat => decide ((ix xs j).T = id)) h
  rw [decide_eq_true_eq] at h1
  have h2 : (ix xs ((fndR xs id).toNat : Int)).T = id := h1
  have e : ((fndR xs id).toNat : Int) = fndR xs id := by omega
  rwa [e] at h2
theorem runsB_at {t : Tab} {xs : List Rn} (h : runsB t xs = true) {i : Int} (h0 : 0 ≤ i) (h1 : i < xs.length) : 0 ≤ fndT t (ix xs i).T ∧ (i = 0 ∨ (ix xs (i - 1)).T < (ix xs i).T) ∧ (0 ≤ (ix xs i).H ∧ (ix xs i).H ≤ 60) ∧ 0 ≤ (ix xs i).F ∧ (ix xs i).F < (ix xs i).O ∧ (ix xs i).O < stN t (ix xs i).T := by
  have := allB_t.1 h i.toNat (by omega)
  rwa [show ((i.toNat : Nat) : Int) = i by omega, runAtB_t] at this
section
variable {P : Program} {ops : Array Oper} {C : World → Prop} {N : Nat} {M : List (Nat × Pr) → List Oper → Prop} {K : List (Nat × Pr)} {rest : List Oper} {d : Nat} {op : Op} {ty : TypeId} {pos : String} {af : Array Edge} {g : Option (Nat × Bool)}
theorem W_eqlNil (hM : Stepper P ops C N M) {α : Type} {Ψ : Phi α} {xs : List α} {es : Option TypeId} {x y : Operand} {t t' e : TypeId} (hu : P.underlying t = some (.slice e)) (hg : wantedK ops K g = some true) (hN : Nat.blt d N = true) (hx : kn K x = some (.inr (uS es Ψ xs))) (hy : kn K y = some (.inl (.slice none 0 0))) (hp : 0 < xs.length)
    (h : M ((d, .inl (.bool false)) :: K) rest) : M K (⟨some d, .binOp .eql t x y t', ty, pos, af, g⟩ :: rest) :=
  W_val hM hN hg (fun ρ w _ hk => by
    obtain ⟨A, n, c, hv, hn, _, _, hall⟩ : IsS es Ψ xs (ρ x) w := hk x (by simp [Op.operands]) _ hx
    have hyv : ρ y = .slice none 0 0 := hk y (by simp [Op.operands]) _ hy
    obtain ⟨b, o, _, hA, _⟩ := hall 0 _ (List.getElem?_eq_getElem hp)
    subst hA
    have hr := run_equal_slice_nil (P := P) w t e (some ⟨b, o, none⟩) n c hu
    have hb : (binOp .eql t (.slice (some ⟨b, o, none⟩) n c) (.slice none 0 0)).run P w = .ok (.bool false) w := by
      simp only [binOp]
      simp [hr]
    simp [execOp, hv, hyv, eqGuard, hb, Result.andThen]) h
end
section
variable {P : Program} {ops : Array Oper} {Q : Exit → Act → World → Prop} {N : Nat} {M : List (Nat × Pr) → List Oper → Prop} {K : List (Nat × Pr)} {rest : List Oper} {d : Nat} {op : Op} {ty : TypeId} {pos : String} {af : Array Edge} {g : Option (Nat × Bool)} {w0 : World} {L : List Osl}
/-- The same for a local struct. -/
theorem W_load1 (m : Nat) (hM : Stepper P ops (Sep w0 L) N M) {α β : Type} [Inhabited α] {e : TypeId} {Ψ : Phi α} {Θ : Phi β} {q : α → β} {z : α} {v : Value} {x : Operand} {t : TypeId} {off ks : Nat} (mkv : β → Value) (hm : L[m]? = some (.sl α e Ψ [z] v)) (hp : Proj Ψ off Θ q) (hmk : ∀ z cs w, Θ.φ z cs w → cs = [mkv z]) (hks : ks = Ψ.k)
    (hB : scalarB P t = true) (hg : wantedK ops K g = some true) (hN : Nat.blt d N = true) (hx : kn K x = some (.inl (ptrAt v 0 ks off))) (h : M ((d, .inl (mkv (q z))) :: K) rest) : M K (⟨some d, .load t x, ty, pos, af, g⟩ :: rest) :=
  W_loadS1 m hM mkv hm hp hmk hks ⟨by simp, by simp⟩ hB hg hN hx h
theorem W_load1A (m : Nat) (hM : Stepper P ops (Sep w0 L) N M) {α : Type} [Inhabited α] {e : TypeId} {Ψ : Phi α} {z : α} {v : Value} {x : Operand} {t : TypeId} {ks : Nat} (hm : L[m]? = some (.sl α e Ψ [z] v)) (hks : ks = Ψ.k)
    (hB : aggB P t Ψ.k = true) (hg : wantedK ops K g = some true) (hN : Nat.blt d N = true) (hx : kn K x = some (.inl (ptrAt v 0 ks 0))) (h : M ((d, .inr (uA Ψ z)) :: K) rest) : M K (⟨some d, .load t x, ty, pos, af, g⟩ :: rest) :=
  W_loadSA m hM hm hks ⟨by simp, by simp⟩ hB hg hN hx h
theorem Sq_storeO1 (m : Nat) {α : Type} [Inhabited α] {e : TypeId} {Ψ : Phi α} {z : α} {v : Value} {x y : Operand} {t : TypeId} {off ks n : Nat} {p : Pr} (z' : α) (hm : L[m]? = some (.sl α e Ψ [z] v)) (hav : avAll L e) (hks : ks = Ψ.k) (hsz : allocB P t n = true) (hoff : off + n ≤ Ψ.k)
    (hy : kn K y = some (.inl (ptrAt v 0 ks off))) (hx : kn K x = some p) (hp : ∀ u w c, p.ok u w → Ψ.φ z c w → ∃ vs : List Value, u.cells = vs.toArray ∧ vs.length = n ∧ (∀ r ∈ vs, r.oneCell' = true) ∧ Ψ.φ z' (putL c off vs) w)
    (h : Sq P ops N (Sep w0 (L.set m (.sl α e Ψ [z'] v))) Q (dropR K) rest) : Sq P ops N (Sep w0 L) Q K (⟨none, .store t y x, ty, pos, af, none⟩ :: rest) :=
  Sq_storeS m z' hm hav ⟨by simp, by simp⟩ hks hsz hoff hy hx hp h
end
theorem pRn_c {x : Rn} {c : List Value} {w : World} (h : pRn.φ x c w) : c = [.int .i64 x.T, .int .i64 x.F, .int .i64 x.O, .int .i64 x.H] := by
  obtain ⟨c1, r1, rfl, rfl, c2, r2, rfl, rfl, c3, r3, rfl, rfl, c4, r4, rfl, rfl, rfl⟩ := h
  rfl
theorem pRn_i (T F O H : Int) (w : World) : pRn.φ ⟨T, F, O, H⟩ [.int .i64 T, .int .i64 F, .int .i64 O, .int .i64 H] w := ⟨[_], _, rfl, rfl, [_], _, rfl, rfl, [_], _, rfl, rfl, [_], _, rfl, rfl, rfl⟩
theorem hp_RnH {x : Rn} {n : Int} : ∀ u w c, Pr.ok (.inl (.int .i64 n)) u w → pRn.φ x c w → ∃ vs : List Value, u.cells = vs.toArray ∧ vs.length = 1 ∧ (∀ r ∈ vs, r.oneCell' = true) ∧ pRn.φ { x with H := n } (putL c 3 vs) w := fun u w c hu hc => by
  obtain rfl : u = .int .i64 n := hu
  obtain rfl := pRn_c hc
  exact ⟨[.int .i64 n], rfl, rfl, (fun r hr => by simp at hr; subst hr; rfl), pRn_i _ _ _ _ w⟩
theorem hp_RnO {x : Rn} {n : Int} : ∀ u w c, Pr.ok (.inl (.int .i64 n)) u w → pRn.φ x c w → ∃ vs : List Value, u.cells = vs.toArray ∧ vs.length = 1 ∧ (∀ r ∈ vs, r.oneCell' = true) ∧ pRn.φ { x with O := n } (putL c 2 vs) w := fun u w c hu hc => by
  obtain rfl : u = .int .i64 n := hu
  obtain rfl := pRn_c hc
  exact ⟨[.int .i64 n], rfl, rfl, (fun r hr => by simp at hr; subst hr; rfl), pRn_i _ _ _ _ w⟩
theorem hp_RnF {x : Rn} {n : Int} : ∀ u w c, Pr.ok (.inl (.int .i64 n)) u w → pRn.φ x c w → ∃ vs : List Value, u.cells = vs.toArray ∧ vs.length = 1 ∧ (∀ r ∈ vs, r.oneCell' = true) ∧ pRn.φ { x with F := n } (putL c 1 vs) w := fun u w c hu hc => by
  obtain rfl : u = .int .i64 n := hu
  obtain rfl := pRn_c hc
  exact ⟨[.int .i64 n], rfl, rfl, (fun r hr => by simp at hr; subst hr; rfl), pRn_i _ _ _ _ w⟩
theorem pj_RnH : Proj pRn 3 pI Rn.H := fun x cs w h => by
  obtain rfl := pRn_c h
  exact ⟨[.int .i64 x.H], fun j u hu => by
    cases j with
    | zero => simpa using hu
    | succ j => simp at hu, rfl⟩
theorem isS_emp {α β : Type} {e : Option TypeId} {Φ : Phi α} {Ψ : Phi β} {v : Value} {w : World} (h : IsS e Φ [] v w) : IsS e Ψ [] v w := by
  obtain ⟨A, n, c, h1, h2, h3, h4, _⟩ := h
  exact ⟨A, n, c, h1, h2, h3, h4, fun i x h => by simp at h⟩
theorem ct_l18Find {e : Option TypeId} (xs : List Rn) (id : Int) : CT Try.prog 74 [.inr (uS e pRn xs), .inl (.int .i64 id)] (.inl (.int .i64 (fndR xs id))) := by
  refine CT_len fun hlen => ?_
  refine CT_of Try.func74 rfl rfl rfl (fun w => ?_)
  have hC := upC_ext w
  try any_goals (first | (refine H_seq ?_; try refine H_reg ?_) | refine H_reg ?_)
  try any_goals (refine W_assign (d := 4) (sq_stepper hC) rfl rfl rfl ?_)
  try any_goals (first | (refine Sq_nil ?_; try refine G_then ?_) | refine G_then ?_)
  try any_goals (refine H_seq ?_)
  try any_goals (first | (refine H_seq ?_; try refine H_reg ?_) | refine H_reg ?_)
  try any_goals (refine W_assign (d := 5) (sq_stepper hC) rfl rfl rfl ?_)
  try any_goals (first | (refine Sq_nil ?_; try refine G_then ?_) | refine G_then ?_)
  try any_goals (refine H_block ?_)
  try any_goals ((refine H_loop (fun i : Nat => i ≤ xs.length ∧ ∀ j : Nat, j < i → decide ((ix xs j).T = id) = false) (fun i => [(0, .inr (uS e pRn xs)), (1, .inl (.int .i64 id)), (5, .inl (.int .i64 i))]) (fun _ => Ext w) (fun i => xs.length - i) 0 ⟨by omega, fun j hj => by omega⟩ (fun a w h => h.sub (by repeat (first | exact trivial | refine ⟨⟨_, rfl, fun _ _ _ h => h⟩, ?_⟩ | refine ⟨⟨_, rfl, fun v w _ h => (show v = _ from h).trans (congrArg (Value.int .i64) (by first | omega | (dsimp only; omega)))⟩, ?_⟩)) fun _ h => h) (fun i hi => ?_); obtain ⟨h1, hall⟩ := hi))
  try any_goals (refine H_seq ?_)
  try any_goals (first | (refine H_seq ?_; try refine H_reg ?_) | refine H_reg ?_)
  try any_goals (refine W_move (d := 6) (sq_stepper hC) rfl rfl rfl ?_)
  try any_goals (refine W_move (d := 7) (sq_stepper hC) rfl rfl rfl ?_)
  try any_goals (first | refine W_len (d := 8) (sq_stepper hC) (by kernel_rfl) rfl rfl rfl ?_ | refine W_lenStr (d := 8) (sq_stepper hC) (by kernel_rfl) rfl rfl rfl ?_)
  try any_goals (first | refine W_cmp (d := 9) (sq_stepper hC) rfl rfl rfl rfl rfl ?_ | refine W_strcmp (d := 9) (sq_stepper hC) rfl rfl rfl rfl rfl ?_)
  try any_goals (first | (refine Sq_nil ?_; try refine G_then ?_) | refine G_then ?_)
  try any_goals (first | refine H_condT rfl ?_ | refine H_condF rfl ?_ | (refine H_cond _ rfl (fun hq => ?_) (fun hq => ?_) <;> (try simp only [hqs, reduceCtorEq] at hq)))
  try any_goals (refine H_skip ?_)
  try any_goals (refine H_exit ?_)
  repeat (any_goals (first | refine G_exit_then ?_ | refine G_exit_here ?_ | refine G_exit_far rfl ?_))
  try any_goals (refine G_then ?_)
  try any_goals (refine H_seq ?_)
  try any_goals (refine H_block ?_)
  try any_goals (first | (refine H_seq ?_; try refine H_reg ?_) | refine H_reg ?_)
  try any_goals (refine W_move (d := 12) (sq_stepper hC) rfl rfl rfl ?_)
  try any_goals (refine W_move (d := 13) (sq_stepper hC) rfl rfl rfl ?_)
  try any_goals (refine W_index (d := 14) (sq_stepper hC) (by kernel_rfl) rfl rfl rfl rfl (by first | omega | (dsimp only; omega)) ?_)
  try any_goals (first | refine W_fieldG (d := 15) (sq_stepper hC) (Proj.head _ _ _) (by kernel_rfl) rfl rfl rfl ?_ | refine W_fieldC (d := 15) (sq_stepper hC) (off := 0) (by kernel_rfl) rfl rfl rfl ?_)
  try any_goals (refine W_loadI (d := 16) (sq_stepper hC) (by kernel_rfl) rfl rfl rfl ?_)
  try any_goals (refine W_move (d := 17) (sq_stepper hC) rfl rfl rfl ?_)
  try any_goals (first | refine W_cmp (d := 18) (sq_stepper hC) rfl rfl rfl rfl rfl ?_ | refine W_eqlStr (d := 18) (sq_stepper hC) rfl rfl rfl rfl ?_ | refine W_eqlB (d := 18) (sq_stepper hC) rfl rfl Try.underlying4 rfl rfl ?_)
  try any_goals (first | (refine Sq_nil ?_; try refine G_then ?_) | refine G_then ?_)
  try any_goals (first | refine H_condT rfl ?_ | refine H_condF rfl ?_ | (refine H_cond _ rfl (fun hq => ?_) (fun hq => ?_) <;> (try simp only [hqs, reduceCtorEq] at hq)))
  try any_goals (first | (refine H_seq ?_; try refine H_reg ?_) | refine H_reg ?_)
  try any_goals (refine W_move (d := 19) (sq_stepper hC) rfl rfl rfl ?_)
  try any_goals (refine W_assign (d := 4) (sq_stepper hC) rfl rfl rfl ?_)
  try any_goals (first | (refine Sq_nil ?_; try refine G_then ?_) | refine G_then ?_)
  try any_goals (refine H_ret ?_)
  repeat (any_goals (first | refine G_ret_then ?_ | refine G_ret_block ?_))
  try any_goals (refine H_skip ?_)
  repeat (any_goals (first | refine G_exit_then ?_ | refine G_exit_here ?_ | refine G_exit_far rfl ?_ | refine G_normal_block ?_))
  try any_goals (refine G_then ?_)
  try any_goals (refine H_reg ?_)
  try any_goals (refine W_move (d := 10) (sq_stepper hC) rfl rfl rfl ?_)
  try any_goals (refine W_ar (d := 11) (sq_stepper hC) rfl rfl rfl rfl rfl (by first | omega | (dsimp only; omega)) ?_)
  try any_goals (refine W_assign (d := 5) (sq_stepper hC) rfl rfl rfl ?_)
  try any_goals (refine Sq_nil ?_)
  try any_goals (refine G_again (i + 1) ⟨by omega, fst_step (q := fun j : Nat => decide ((ix xs j).T = id)) hall (decide_eq_false (by omega))⟩ (by omega) (by repeat (first | exact trivial | refine ⟨⟨_, rfl, fun _ _ _ h => h⟩, ?_⟩ | refine ⟨⟨_, rfl, fun v w _ h => (show v = _ from h).trans (congrArg (Value.int .i64) (by first | omega | (dsimp only; omega)))⟩, ?_⟩)) (fun _ h => h))
  repeat (any_goals (first | refine G_exit_then ?_ | refine G_exit_here ?_ | refine G_exit_far rfl ?_ | refine G_normal_block ?_))
  try any_goals (refine G_then ?_)
  try any_goals (first | (refine H_seq ?_; try refine H_reg ?_) | refine H_reg ?_)
  try any_goals (refine W_assign (d := 4) (sq_stepper hC) rfl rfl rfl ?_)
  try any_goals (first | (refine Sq_nil ?_; try refine G_then ?_) | refine G_then ?_)
  try any_goals (refine H_ret ?_)
  repeat (any_goals (first | refine G_ret_then ?_ | refine G_ret_block ?_))
  all_goals first
    | exact R1v rfl (fun _ h => h) rfl (congrArg (Value.int .i64) (firstI_some (q := fun j : Nat => decide ((ix xs j).T = id)) (decide_eq_true (by omega)) hall (by omega)).symm)
    | exact R1v rfl (fun _ h => h) rfl (congrArg (Value.int .i64) (firstI_none (q := fun j : Nat => decide ((ix xs j).T = id)) fun j hj => hall j (by omega)).symm)
theorem ct_IndexFuncR {e : Option TypeId} (xs : List Rn) (q : Rn → Bool) : CT Try.prog 121 [.inr (uS e pRn xs), .inr (uFun Try.prog (fun x : Rn => [.inr (uA pRn x)]) (fun x => .inl (.bool (q x))))] (.inl (.int .i64 (firstI (fun j => q (ix xs j)) xs.length))) := by
  refine CT_len fun hlen => ?_
  refine CT_of Try.func121 rfl rfl rfl (fun w => ?_)
  have hC := upC_ext w
  try any_goals (first | (refine H_seq ?_; try refine H_reg ?_) | refine H_reg ?_)
  try any_goals (refine W_assign (d := 4) (sq_stepper hC) rfl rfl rfl ?_)
  try any_goals (first | (refine Sq_nil ?_; try refine G_then ?_) | refine G_then ?_)
  try any_goals (refine H_seq ?_)
  try any_goals (first | (refine H_seq ?_; try refine H_reg ?_) | refine H_reg ?_)
  try any_goals (refine W_move (d := 6) (sq_stepper hC) rfl rfl rfl ?_)
  try any_goals (first | refine W_len (d := 7) (sq_stepper hC) (by kernel_rfl) rfl rfl rfl ?_ | refine W_lenStr (d := 7) (sq_stepper hC) (by kernel_rfl) rfl rfl rfl ?_ | refine W_callFun (d := 7) (sq_stepper hC) (ix xs i) rfl rfl rfl rfl ?_)
  try any_goals (refine W_move (d := 8) (sq_stepper hC) rfl rfl rfl ?_)
  try any_goals (first | (refine Sq_nil ?_; try refine G_then ?_) | refine G_then ?_)
  try any_goals (refine H_block ?_)
  try any_goals ((refine H_loop (fun i : Nat => i ≤ xs.length ∧ ∀ j : Nat, j < i → q (ix xs j) = false) (fun i => [(0, .inr (uS e pRn xs)), (1, .inr (uFun Try.prog (fun x : Rn => [.inr (uA pRn x)]) (fun x => .inl (.bool (q x))))), (7, .inl (.int .i64 xs.length)), (8, .inl (.int .i64 i))]) (fun _ => Ext w) (fun i => xs.length - i) 0 ⟨by omega, fun j hj => by omega⟩ (fun a w h => h.sub (by repeat (first | exact trivial | refine ⟨⟨_, rfl, fun _ _ _ h => h⟩, ?_⟩ | refine ⟨⟨_, rfl, fun v w _ h => (show v = _ from h).trans (congrArg (Value.int .i64) (by first | omega | (dsimp only; omega)))⟩, ?_⟩)) fun _ h => h) (fun i hi => ?_); obtain ⟨h1, hall⟩ := hi))
  try any_goals (first | (refine H_seq ?_; try refine H_reg ?_) | refine H_reg ?_)
  try any_goals (first | refine W_cmp (d := 9) (sq_stepper hC) rfl rfl rfl rfl rfl ?_ | refine W_strcmp (d := 9) (sq_stepper hC) rfl rfl rfl rfl rfl ?_)
  try any_goals (first | (refine Sq_nil ?_; try refine G_then ?_) | refine G_then ?_)
  try any_goals (refine H_seq ?_)
  try any_goals (first | refine H_condT rfl ?_ | refine H_condF rfl ?_ | (refine H_cond _ rfl (fun hq => ?_) (fun hq => ?_) <;> (try simp only [hqs, reduceCtorEq] at hq)))
  try any_goals (refine H_skip ?_)
  try any_goals (refine H_exit ?_)
  repeat (any_goals (first | refine G_exit_then ?_ | refine G_exit_here ?_ | refine G_exit_far rfl ?_))
  try any_goals (refine G_then ?_)
  try any_goals (refine H_seq ?_)
  try any_goals (refine H_block ?_)
  try any_goals (first | (refine H_seq ?_; try refine H_reg ?_) | refine H_reg ?_)
  try any_goals (refine W_move (d := 10) (sq_stepper hC) rfl rfl rfl ?_)
  try any_goals (refine W_assign (d := 5) (sq_stepper hC) rfl rfl rfl ?_)
  try any_goals (first | (refine Sq_nil ?_; try refine G_then ?_) | refine G_then ?_)
  try any_goals (first | (refine H_seq ?_; try refine H_reg ?_) | refine H_reg ?_)
  try any_goals (refine W_move (d := 11) (sq_stepper hC) rfl rfl rfl ?_)
  try any_goals (refine W_move (d := 12) (sq_stepper hC) rfl rfl rfl ?_)
  try any_goals (refine W_move (d := 13) (sq_stepper hC) rfl rfl rfl ?_)
  try any_goals (refine W_index (d := 14) (sq_stepper hC) (by kernel_rfl) rfl rfl rfl rfl (by first | omega | (dsimp only; omega)) ?_)
  try any_goals (refine W_loadA (d := 15) (sq_stepper hC) (by kernel_rfl) rfl rfl rfl ?_)
  try any_goals (refine W_callFun (d := 16) (sq_stepper hC) (ix xs i) rfl rfl rfl rfl ?_)
  try any_goals (first | (refine Sq_nil ?_; try refine G_then ?_) | refine G_then ?_)
  try any_goals (first | refine H_condT rfl ?_ | refine H_condF rfl ?_ | (refine H_cond _ rfl (fun hq => ?_) (fun hq => ?_) <;> (try simp only [hqs, reduceCtorEq] at hq)))
  try any_goals (first | (refine H_seq ?_; try refine H_reg ?_) | refine H_reg ?_)
  try any_goals (refine W_move (d := 17) (sq_stepper hC) rfl rfl rfl ?_)
  try any_goals (refine W_assign (d := 4) (sq_stepper hC) rfl rfl rfl ?_)
  try any_goals (first | (refine Sq_nil ?_; try refine G_then ?_) | refine G_then ?_)
  try any_goals (refine H_ret ?_)
  repeat (any_goals (first | refine G_ret_then ?_ | refine G_ret_block ?_))
  try any_goals (refine H_skip ?_)
  repeat (any_goals (first | refine G_exit_then ?_ | refine G_exit_here ?_ | refine G_exit_far rfl ?_ | refine G_normal_block ?_))
  try any_goals (refine G_then ?_)
  try any_goals (refine H_reg ?_)
  try any_goals (refine W_ar (d := 18) (sq_stepper hC) rfl rfl rfl rfl rfl (by first | omega | (dsimp only; omega)) ?_)
  try any_goals (refine W_move (d := 8) (sq_stepper hC) rfl rfl rfl ?_)
  try any_goals (refine Sq_nil ?_)
  try any_goals (refine G_again (i + 1) ⟨by omega, fst_step (q := fun j : Nat => q (ix xs j)) hall hq⟩ (by omega) (by repeat (first | exact trivial | refine ⟨⟨_, rfl, fun _ _ _ h => h⟩, ?_⟩ | refine ⟨⟨_, rfl, fun v w _ h => (show v = _ from h).trans (congrArg (Value.int .i64) (by first | omega | (dsimp only; omega)))⟩, ?_⟩)) (fun _ h => h))
  repeat (any_goals (first | refine G_exit_then ?_ | refine G_exit_here ?_ | refine G_exit_far rfl ?_ | refine G_normal_block ?_))
  try any_goals (refine G_then ?_)
  try any_goals (first | (refine H_seq ?_; try refine H_reg ?_) | refine H_reg ?_)
  try any_goals (refine W_assign (d := 4) (sq_stepper hC) rfl rfl rfl ?_)
  try any_goals (first | (refine Sq_nil ?_; try refine G_then ?_) | refine G_then ?_)
  try any_goals (refine H_ret ?_)
  repeat (any_goals (first | refine G_ret_then ?_ | refine G_ret_block ?_))
  all_goals first
    | exact R1v rfl (fun _ h => h) rfl (congrArg (Value.int .i64) (firstI_some (q := fun j : Nat => q (ix xs j)) hq hall (by omega)).symm)
    | exact R1v rfl (fun _ h => h) rfl (congrArg (Value.int .i64) (firstI_none (q := fun j : Nat => q (ix xs j)) fun j hj => hall j (by omega)).symm)
theorem ct_runIs (x : Rn) (id : Int) : CT Try.prog 122 [.inr (uA pRn x), .inr (uP pI id)] (.inl (.bool (decide (x.T = id)))) := by
  refine CT_of Try.func122 rfl rfl rfl (fun w => ?_)
  have hC := upC_ext w
  try any_goals (first | (refine H_seq ?_; try refine H_reg ?_) | refine H_reg ?_)
  try any_goals (refine W_boxA (d := 2) (sq_stepper hC) rfl rfl rfl ?_)
  try any_goals (refine W_assign (d := 3) (sq_stepper hC) rfl rfl rfl ?_)
  try any_goals (first | (refine Sq_nil ?_; try refine G_then ?_) | refine G_then ?_)
  try any_goals (first | (refine H_seq ?_; try refine H_reg ?_) | refine H_reg ?_)
  try any_goals (first | refine W_fieldG (d := 4) (sq_stepper hC) (Proj.head _ _ _) (by kernel_rfl) rfl rfl rfl ?_ | refine W_fieldC (d := 4) (sq_stepper hC) (off := 0) (by kernel_rfl) rfl rfl rfl ?_)
  try any_goals (refine W_loadI (d := 5) (sq_stepper hC) (by kernel_rfl) rfl rfl rfl ?_)
  try any_goals (refine W_loadI (d := 6) (sq_stepper hC) (by kernel_rfl) rfl rfl rfl ?_)
  try any_goals (first | refine W_cmp (d := 7) (sq_stepper hC) rfl rfl rfl rfl rfl ?_ | refine W_eqlStr (d := 7) (sq_stepper hC) rfl rfl rfl rfl ?_ | refine W_eqlB (d := 7) (sq_stepper hC) rfl rfl Try.underlying4 rfl rfl ?_)
  try any_goals (refine W_assign (d := 3) (sq_stepper hC) rfl rfl rfl ?_)
  try any_goals (first | (refine Sq_nil ?_; try refine G_then ?_) | refine G_then ?_)
  try any_goals (refine H_ret ?_)
  repeat (any_goals (first | refine G_ret_then ?_ | refine G_ret_block ?_))
  all_goals exact R1v rfl (fun _ h => h) rfl rfl
theorem ct_runIndex {e : Option TypeId} (xs : List Rn) (id : Int) : CT Try.prog 75 [.inr (uS e pRn xs), .inl (.int .i64 id)] (.inl (.int .i64 (fndR xs id))) := by
  refine CT_of Try.func75 rfl rfl rfl (fun w => ?_)
  have hC := upC_ext w
  try any_goals (first | (refine H_seq ?_; try refine H_reg ?_) | refine H_reg ?_)
  try any_goals (first | refine W_boxA (d := 3) (sq_stepper hC) rfl rfl rfl ?_ | refine W_boxI (d := 3) (sq_stepper hC) rfl rfl rfl ?_)
  try any_goals (refine W_assign (d := 4) (sq_stepper hC) rfl rfl rfl ?_)
  try any_goals (first | (refine Sq_nil ?_; try refine G_then ?_) | refine G_then ?_)
  try any_goals (first | (refine H_seq ?_; try refine H_reg ?_) | refine H_reg ?_)
  try any_goals (refine W_move (d := 5) (sq_stepper hC) rfl rfl rfl ?_)
  try any_goals (refine W_makeFun (d := 6) (sq_stepper hC) (fun x : Rn => [.inr (uA pRn x)]) (fun x => .inl (.bool (decide (x.T = id)))) (cs := [.inr (uP pI id)]) (fun x => ct_runIs x id) rfl rfl rfl (by kernel_rfl) ?_)
  try any_goals (refine W_ct (d := 7) (sq_stepper hC) (ct_IndexFuncR _ (fun x => decide (x.T = id))) rfl rfl rfl (by kernel_rfl) ?_)
  try any_goals (refine W_assign (d := 4) (sq_stepper hC) rfl rfl rfl ?_)
  try any_goals (first | (refine Sq_nil ?_; try refine G_then ?_) | refine G_then ?_)
  try any_goals (refine H_ret ?_)
  repeat (any_goals (first | refine G_ret_then ?_ | refine G_ret_block ?_))
  all_goals exact R1v rfl (fun _ h => h) rfl rfl
theorem cg_cloneR {e : Option TypeId} (xs : List Rn) (hp : 0 < xs.length) (hb : xs.length ≤ 1048576) : CTG Try.prog 77 [.inr (uS e pRn xs)] (fun s => .inr (uO s oRunS xs)) := by
  refine CTG_of Try.func77 rfl rfl rfl (fun w s hs => ?_)
  have hC := upC_ext w
  try any_goals (first | (refine H_seq ?_; try refine H_reg ?_) | refine H_reg ?_)
  try any_goals (refine W_assign (d := 2) (sq_stepper hC) rfl rfl rfl ?_)
  try any_goals (first | (refine Sq_nil ?_; try refine G_then ?_) | refine G_then ?_)
  try any_goals (refine H_seq ?_)
  try any_goals (first | (refine H_seq ?_; try refine H_reg ?_) | refine H_reg ?_)
  try any_goals (first | refine W_moveR (d := 3) (sq_stepper hC) (U := uS e pRn xs) (fun w' h => UR.lift (Sep.ext h) hr0) rfl rfl rfl ?_ | refine W_move (d := 3) (sq_stepper hC) rfl rfl rfl ?_)
  try any_goals (first | refine W_eqlNil (d := 4) (sq_stepper hC) (e := 108) (xs := xs) Try.underlying53 rfl rfl rfl rfl hp ?_ | refine W_cmp (d := 4) (sq_stepper hC) rfl rfl rfl rfl rfl ?_ | refine W_eqlStr (d := 4) (sq_stepper hC) rfl rfl rfl rfl ?_ | refine W_eqlB (d := 4) (sq_stepper hC) rfl rfl Try.underlying4 rfl rfl ?_)
  try any_goals (first | (refine Sq_nil ?_; try refine G_then ?_) | refine G_then ?_)
  try any_goals (first | refine H_condT rfl ?_ | refine H_condF rfl ?_ | (refine H_cond _ rfl (fun hq => ?_) (fun hq => ?_) <;> (try simp only [hqs, reduceCtorEq] at hq)))
  try any_goals (first | (refine H_seq ?_; try refine H_reg ?_) | refine H_reg ?_)
  try any_goals (refine W_assign (d := 2) (sq_stepper hC) rfl rfl rfl ?_)
  try any_goals (first | (refine Sq_nil ?_; try refine G_then ?_) | refine G_then ?_)
  try any_goals (refine H_ret ?_)
  repeat (any_goals (first | refine G_ret_then ?_ | refine G_ret_block ?_))
  try any_goals (refine H_skip ?_)
  try any_goals (refine G_then ?_)
  try any_goals (refine H_seq ?_)
  try any_goals (have hE : Ext _ _ := Ext.refl w)
  try any_goals (refine H_open 0 rfl (fun q u0 hw hr0 => ?_); have hE := hE.trans hw)
  try any_goals (refine H_weakenC (C' := Sep q []) (fun w' h => sep_start h) ?_; have hC : UpC (Sep q []) := upC_sep)
  try any_goals (refine H_reg ?_)
  try any_goals ((refine Sq_buildS (d := 5) [] pRn [] (e := 108) (by kernel_rfl) (by kernel_rfl) rfl rfl (by kernel_rfl) rfl rfl trivial rfl (fun v5 => ?_)))
  try any_goals (first | refine W_moveR (d := 6) (sq_stepper upC_sep) (U := uS e pRn xs) (fun w' h => UR.lift (Sep.ext h) hr0) rfl rfl rfl ?_ | refine W_move (d := 6) (sq_stepper upC_sep) rfl rfl rfl ?_)
  try any_goals ((refine Sq_appS (d := 7) 0 (Ψ := pRn) rfl ⟨⟨trivial, trivial, trivial, trivial, trivial⟩, trivial⟩ (by kernel_rfl) (by kernel_rfl) rfl rfl rfl ⟨by simp only [List.length_nil]; omega, hp⟩ (fun va => ?_)))
  try any_goals (refine W_assign (d := 2) (sq_stepper upC_sep) rfl rfl rfl ?_)
  try any_goals (first | (refine Sq_nil ?_; try refine G_then ?_) | refine G_then ?_)
  try any_goals (refine H_ret ?_)
  repeat (any_goals (first | refine G_ret_then ?_ | refine G_ret_block ?_))
  all_goals first
    | exact R1 rfl (fun _ h => hE.trans h.ext) rfl (fun v w' hc hv => by rw [show v = _ from hv]; exact hc.isO (m := 0) rfl (Nat.le_trans hs hE.size))
    | trace_state
end Go.Proofs.Ytikijhclakccpaa

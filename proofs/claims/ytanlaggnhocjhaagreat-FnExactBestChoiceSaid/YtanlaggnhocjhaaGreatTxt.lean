/- The text of a mark: some string. -/
import Derived.Test.YtanlaggnhocjhaaGreatTabM
namespace Go.Proofs.YtanlaggnhocjhaaGreat
set_option linter.unusedSimpArgs false
set_option linter.unusedVariables false
open Go.RowKit Go.ChangeShapes Go.WideShapes Go.ChangeAt Go.Deep
def pU8 : Phi Int := ⟨1, fun x cs _ => cs = [.int .u8 x], fun _ _ _ _ _ h => h, (fun _ _ _ h => by rw [h]; rfl), (fun _ _ _ h u hu => by rw [h] at hu; simp at hu; subst hu; rfl), fun _ => True, fun _ _ _ _ _ _ _ h => h⟩
theorem elem_U8 {n : Int} : ∀ v w, Pr.ok (.inl (.int .u8 n)) v w → ∃ vs : List Value, v.cells = vs.toArray ∧ pU8.φ n vs w := fun v w h => ⟨[v], by rw [show v = .int .u8 n from h]; rfl, by rw [show v = .int .u8 n from h]; rfl⟩
def uAStr : UR := ⟨fun v _ => ∃ s, v = .string s, fun _ _ _ _ h => h⟩
section
variable {P : Program} {ops : Array Oper} {C : World → Prop} {Q : Exit → Act → World → Prop} {N : Nat} {M : List (Nat × Pr) → List Oper → Prop} {K : List (Nat × Pr)} {rest : List Oper} {d : Nat} {op : Op} {ty : TypeId} {pos : String} {af : Array Edge} {g : Option (Nat × Bool)}
theorem W_convU8 (hM : Stepper P ops C N M) {n : Int} {x : Operand} {t t' : TypeId} (ht : P.underlying t = some (.int .i64)) (ht' : P.underlying t' = some (.int .u8)) (hg : wantedK ops K g = some true) (hN : Nat.blt d N = true) (hx : kn K x = some (.inl (.int .i64 n)))
    (h : M ((d, .inl (.int .u8 (IntKind.u8.wrap n))) :: K) rest) : M K (⟨some d, .convert t t' x, ty, pos, af, g⟩ :: rest) :=
  W_val hM hN hg (fun ρ w _ hk => by
    have hv : ρ x = .int .i64 n := hk x (by simp [Op.operands]) _ hx
    simp [execOp, hv, convert, run_underlying ht, run_underlying ht', Conv.intToInt]) h
theorem W_convStr (hM : Stepper P ops C N M) {n : Int} {x : Operand} {t t' e : TypeId} (ht : P.underlying t = some (.slice e)) (he : P.underlying e = some (.int .u8)) (ht' : P.underlying t' = some .string) (hg : wantedK ops K g = some true) (hN : Nat.blt d N = true) {te : Option TypeId} (hx : kn K x = some (.inr (uS te pU8 [n])))
    (h : M ((d, .inl (.string (ByteArray.empty.push (UInt8.ofNat n.toNat)))) :: K) rest) : M K (⟨some d, .convert t t' x, ty, pos, af, g⟩ :: rest) :=
  W_val hM hN hg (fun ρ w _ hk => by
    obtain ⟨A, n', c, hv, hn, _, _, hall⟩ := hk x (by simp [Op.operands]) _ hx
    obtain ⟨b, off, cs, rfl, hcell, hφ, _⟩ := hall 0 n rfl
    have hφ' : cs = [.int .u8 n] := hφ
    subst hφ'
    subst hn
    have hr := run_loadCells_list (P := P) w ⟨b, off, none⟩ [.int .u8 n] (fun j v hj => by rw [Addr.add_lit]; have := hcell j v hj; simpa using this)
    simp at hr
    simp [execOp, hv, convert, run_underlying ht, run_underlying ht', run_underlying he, Conv.bytesToString, hr]) h
theorem W_catStr (hM : Stepper P ops C N M) {t t' : TypeId} {x y : Operand} {a b : ByteArray} (hg : wantedK ops K g = some true) (hN : Nat.blt d N = true)
    (hx : kn K x = some (.inl (.string a))) (hy : kn K y = some (.inl (.string b))) (hs : (a.size : Int) + b.size ≤ 9223372036854775807)
    (h : M ((d, .inl (.string (a ++ b))) :: K) rest) : M K (⟨some d, .binOp .add t x y t', ty, pos, af, g⟩ :: rest) :=
  W_val hM hN hg (fun ρ w _ hk => by
    have hx' : ρ x = .string a := hk x (by simp [Op.operands]) _ hx
    have hy' : ρ y = .string b := hk y (by simp [Op.operands]) _ hy
    have h1 : ¬ (((a.size + b.size : Nat) : Int) > IntKind.i64.max) := by
      rw [show IntKind.i64.max = 9223372036854775807 by decide]
      omega
    simp only [execOp, hx', hy', go_sem, Op.stringOp, if_neg h1]
    rfl) h
theorem Sq_text {f : FuncId} {k : Int} {Y : Operand} {ats : Array TypeId} (hC : UpC C) (hct : CT P f [.inl (.int .i64 k)] (.inr uAStr)) (hN : Nat.blt d N = true) (hargs : knAll K [Y] = some [.inl (.int .i64 k)]) (hB : callB P f = true)
    (h : ∀ s, Sq P ops N C Q ((d, .inl (.string s)) :: K) rest) : Sq P ops N C Q K (⟨some d, .call { callee := .value (.func f), args := #[Y], argTypes := ats }, ty, pos, af, none⟩ :: rest) := by
  unfold Sq
  intro a w hst
  refine wpList_plain rfl fun K' hK' => ?_
  unfold Oper.wp
  rw [run_call hB rfl]
  simp only [Oper.upon]
  have hall := knAll_ok (ρ := a.eval) (w := w) [Y] _ hargs fun x hx p hp => kn_val hst hp
  have hc := hct.out w _ hall
  have e1 : ([Y].map a.eval).toArray = (#[Y] : Array Operand).map a.eval := by simp
  rw [e1] at hc
  refine hc.mono fun en w' ⟨v, he, hext, s, hv⟩ => ?_
  subst he hv
  have hsq := h s
  unfold Sq at hsq
  exact hK' _ _ (hsq _ _ (hst.step (d := d) (R := .inl (.string s)) (v := .string s) hC hext (Nat.le_of_ble_eq_true hN) rfl))
end
theorem size_push {n : Int} : (ByteArray.empty.push (UInt8.ofNat n.toNat)).size = 1 := rfl
theorem ct_markText (k : Int) (hk : k ≤ 9000000000000000000) : CT Tryz.prog 96 [.inl (.int .i64 k)] (.inr uAStr) := by
  refine CT_of Tryz.func96 rfl rfl rfl (fun w => ?_)
  have hC := upC_ext w
  try any_goals ((refine H_seq ?_; try refine H_reg ?_))
  try any_goals (refine W_assign (d := 2) (sq_stepper hC) rfl rfl rfl ?_)
  try any_goals ((refine Sq_nil ?_; try refine G_then ?_))
  try any_goals (refine H_seq ?_)
  try any_goals ((refine H_seq ?_; try refine H_reg ?_))
  try any_goals (refine W_move (d := 4) (sq_stepper hC) rfl rfl rfl ?_)
  try any_goals (refine W_cmp (d := 5) (sq_stepper hC) rfl rfl rfl rfl rfl ?_)
  try any_goals ((refine Sq_nil ?_; try refine G_then ?_))
  try any_goals ((refine H_cond _ rfl (fun hq => ?_) (fun hq => ?_) <;> (try simp only [hqs, reduceCtorEq] at hq)))
  try any_goals ((refine H_seq ?_; try refine H_reg ?_))
  try any_goals (refine W_assign (d := 2) (sq_stepper hC) rfl rfl rfl ?_)
  try any_goals ((refine Sq_nil ?_; try refine G_then ?_))
  try any_goals (refine H_ret ?_)
  repeat (any_goals (first | refine G_ret_then ?_ | refine G_ret_block ?_))
  try any_goals (refine H_skip ?_)
  try any_goals (refine G_then ?_)
  try any_goals ((refine H_seq ?_; try refine H_reg ?_))
  try any_goals (refine W_assign (d := 3) (sq_stepper hC) rfl rfl rfl ?_)
  try any_goals ((refine Sq_nil ?_; try refine G_then ?_))
  try any_goals (refine H_seq ?_)
  try any_goals (refine H_block ?_)
  try any_goals ((refine H_loop (σ := Int × ByteArray) (fun x => 0 ≤ x.1 ∧ x.1 + x.2.size ≤ k) (fun x => [(0, .inl (.int .i64 x.1)), (3, .inl (.string x.2))]) (fun _ => Ext w) (fun x => x.1.toNat) (k, ⟨#[]⟩) ⟨by simp only; omega, by show k + ((0 : Nat) : Int) ≤ k; omega⟩ (fun a w h => h.sub (by repeat (first | exact trivial | refine ⟨⟨_, rfl, fun _ _ _ h => h⟩, ?_⟩ | refine ⟨⟨_, rfl, fun v w _ h => (show v = _ from h).trans (congrArg (Value.int .i64) (by first | omega | (dsimp only; omega)))⟩, ?_⟩)) fun _ h => h) (fun x hx => ?_); obtain ⟨m, s⟩ := x; obtain ⟨h0, h1⟩ := hx; simp only at h0 h1))
  try any_goals (refine H_seq ?_)
  try any_goals ((refine H_seq ?_; try refine H_reg ?_))
  try any_goals (refine W_move (d := 6) (sq_stepper hC) rfl rfl rfl ?_)
  try any_goals (refine W_cmp (d := 7) (sq_stepper hC) rfl rfl rfl rfl rfl ?_)
  try any_goals ((refine Sq_nil ?_; try refine G_then ?_))
  try any_goals ((refine H_cond _ rfl (fun hq => ?_) (fun hq => ?_) <;> (try simp only [hqs, reduceCtorEq] at hq)))
  try any_goals (refine H_skip ?_)
  try any_goals (refine H_exit ?_)
  repeat (any_goals (first | refine G_exit_then ?_ | refine G_exit_here ?_ | refine G_exit_far rfl ?_))
  try any_goals (refine G_then ?_)
  try any_goals (refine H_block ?_)
  try any_goals ((refine H_seq ?_; try refine H_reg ?_))
  try any_goals (refine W_move (d := 8) (sq_stepper hC) rfl rfl rfl ?_)
  try any_goals (refine W_rem (d := 9) (sq_stepper hC) rfl rfl rfl rfl (by first | omega | (dsimp only; omega)) ?_)
  try any_goals (refine W_ar (d := 10) (sq_stepper hC) rfl rfl rfl rfl rfl (by first | omega | (dsimp only; omega)) ?_)
  try any_goals (refine W_convU8 (d := 11) (sq_stepper hC) (by kernel_rfl) (by kernel_rfl) rfl rfl rfl ?_)
  try any_goals (refine W_buildS (d := 12) (sq_stepper hC) [.tmp 11] pU8 [_] (e := 5) (by kernel_rfl) (by kernel_rfl) rfl rfl (by kernel_rfl) rfl rfl rfl ⟨elem_U8, trivial⟩ ?_)
  try any_goals (refine W_convStr (d := 13) (sq_stepper hC) (e := 5) (by kernel_rfl) (by kernel_rfl) (by kernel_rfl) rfl rfl rfl ?_)
  try any_goals (refine W_move (d := 14) (sq_stepper hC) rfl rfl rfl ?_)
  try any_goals (refine W_catStr (d := 15) (sq_stepper hC) rfl rfl rfl rfl (by dsimp only; rw [size_push]; omega) ?_)
  try any_goals (refine W_assign (d := 3) (sq_stepper hC) rfl rfl rfl ?_)
  try any_goals ((refine Sq_nil ?_; try refine G_then ?_))
  try any_goals (refine H_reg ?_)
  try any_goals (refine W_move (d := 16) (sq_stepper hC) rfl rfl rfl ?_)
  try any_goals (refine W_quo (d := 17) (sq_stepper hC) rfl rfl rfl rfl (by first | omega | (dsimp only; omega)) ?_)
  try any_goals (refine W_assign (d := 0) (sq_stepper hC) rfl rfl rfl ?_)
  try any_goals (refine Sq_nil ?_)
  repeat (any_goals (first | refine G_exit_then ?_ | refine G_exit_here ?_ | refine G_exit_far rfl ?_ | refine G_normal_block ?_))
  try any_goals (refine G_again (m / 10, _) ⟨by simp only; omega, ?_⟩ (by simp only; omega) (by repeat (first | exact trivial | refine ⟨⟨_, rfl, fun _ _ _ h => h⟩, ?_⟩ | refine ⟨⟨_, rfl, fun v w _ h => (show v = _ from h).trans (congrArg (Value.int .i64) (by first | omega | (dsimp only; omega)))⟩, ?_⟩)) (fun _ h => h))
  repeat (any_goals (first | refine G_exit_then ?_ | refine G_exit_here ?_ | refine G_exit_far rfl ?_ | refine G_normal_block ?_))
  try any_goals (refine W_move (d := 18) (sq_stepper hC) rfl rfl rfl ?_)
  try any_goals (refine W_catStr (d := 19) (sq_stepper hC) rfl rfl rfl rfl (by dsimp only; rw [show (ByteArray.size ⟨#[109]⟩) = 1 from rfl]; omega) ?_)
  try any_goals (refine W_assign (d := 2) (sq_stepper hC) rfl rfl rfl ?_)
  try any_goals ((refine Sq_nil ?_; try refine G_then ?_))
  try any_goals (refine H_ret ?_)
  repeat (any_goals (first | refine G_ret_then ?_ | refine G_ret_block ?_))
  all_goals first
    | exact R1 rfl (fun _ h => h) rfl (fun v w _ hv => ⟨_, hv⟩)
    | (simp only [ByteArray.size_append, size_push]; omega)
    | trace_state
theorem mx_StringS : MKX Tryz.prog 76 (ShS sStr) 1048576 := by
  refine MKX_of Tryz.func76 rfl rfl rfl (fun w v S k hV hS hk => ?_)
  have hV0 := hV
  obtain ⟨A, n, c, rfl, hn, _⟩ := hV0
  have hC : UpC (Tn S w) := upC_tn
  try any_goals ((refine H_seq ?_; try refine H_reg ?_))
  try any_goals (refine W_assign (d := 4) (sq_stepper hC) rfl rfl rfl ?_)
  try any_goals ((refine Sq_nil ?_; try refine G_then ?_))
  try any_goals (refine H_seq ?_)
  try any_goals ((refine H_seq ?_; try refine H_reg ?_))
  try any_goals (refine W_assign (d := 5) (sq_stepper hC) rfl rfl rfl ?_)
  try any_goals ((refine Sq_nil ?_; try refine G_then ?_))
  try any_goals (refine H_block ?_)
  try any_goals ((refine H_loop (σ := Nat × Int) (fun x => x.1 ≤ n ∧ k ≤ x.2 ∧ x.2 ≤ k + 1 * x.1) (fun x => [(0, .inl (.slice A n c)), (1, .inl (.int .i64 x.2)), (5, .inl (.int .i64 x.1))]) (fun _ => Tn S w) (fun x => n - x.1) (0, k) ⟨Nat.zero_le _, by simp only; omega, by simp only; omega⟩ (fun a w h => h.sub (by repeat (first | exact trivial | refine ⟨⟨_, rfl, fun _ _ _ h => h⟩, ?_⟩ | refine ⟨⟨_, rfl, fun v w _ h => (show v = _ from h).trans (congrArg (Value.int .i64) (by first | omega | (dsimp only; omega)))⟩, ?_⟩)) fun _ h => h) (fun x hx => ?_); obtain ⟨i, m⟩ := x; obtain ⟨hi, hm1, hm2⟩ := hx; simp only at hi hm1 hm2))
  try any_goals (refine H_seq ?_)
  try any_goals ((refine H_seq ?_; try refine H_reg ?_))
  try any_goals (refine W_move (d := 6) (sq_stepper hC) rfl rfl rfl ?_)
  try any_goals (refine W_move (d := 7) (sq_stepper hC) rfl rfl rfl ?_)
  try any_goals (refine W_lenO (d := 8) (sq_stepper hC) (by kernel_rfl) rfl rfl rfl ?_)
  try any_goals (refine W_cmp (d := 9) (sq_stepper hC) rfl rfl rfl rfl rfl ?_)
  try any_goals ((refine Sq_nil ?_; try refine G_then ?_))
  try any_goals ((refine H_cond _ rfl (fun hq => ?_) (fun hq => ?_) <;> (try simp only [hqs, reduceCtorEq] at hq)))
  try any_goals (refine H_skip ?_)
  try any_goals (refine H_exit ?_)
  repeat (any_goals (first | refine G_exit_then ?_ | refine G_exit_here ?_ | refine G_exit_far rfl ?_))
  try any_goals (refine G_then ?_)
  try any_goals (refine H_seq ?_)
  try any_goals (refine H_block ?_)
  try any_goals (first | (refine H_seq ?_; try refine H_reg ?_) | refine H_reg ?_)
  try any_goals (refine W_move (d := 12) (sq_stepper hC) rfl rfl rfl ?_)
  try any_goals (refine W_move (d := 13) (sq_stepper hC) rfl rfl rfl ?_)
  try any_goals (refine W_move (d := 14) (sq_stepper hC) rfl rfl rfl ?_)
  try any_goals ((refine Sq_text hC (ct_markText _ (by omega)) rfl rfl (by kernel_rfl) (fun s0 => ?_)))
  try any_goals ((obtain ⟨b, rfl⟩ := hV.some_ (by omega); refine W_indexO (d := 16) (s := Shp.k sStr) (sq_stepper hC) (by kernel_rfl) rfl rfl rfl rfl (by omega) ?_))
  try any_goals ((refine Sq_storeT hV (i := i) (by omega) PrS.self (fun _ _ _ ⟨x, hx⟩ => ⟨_, hx, _, rfl⟩) rfl (by kernel_rfl) rfl (by first | rfl | (simp only [Int.toNat_natCast, Nat.add_zero]; rfl)) rfl ?_; have hC : UpC (Tn S w) := upC_tn))
  try any_goals ((refine Sq_nil ?_; try refine G_then ?_))
  try any_goals (refine H_reg ?_)
  try any_goals (refine W_move (d := 17) (sq_stepper hC) rfl rfl rfl ?_)
  try any_goals (refine W_ar (d := 18) (sq_stepper hC) rfl rfl rfl rfl rfl (by first | omega | (dsimp only; omega)) ?_)
  try any_goals (refine W_assign (d := 1) (sq_stepper hC) rfl rfl rfl ?_)
  try any_goals (refine Sq_nil ?_)
  repeat (any_goals (first | refine G_exit_then ?_ | refine G_exit_here ?_ | refine G_exit_far rfl ?_ | refine G_normal_block ?_))
  try any_goals (refine G_then ?_)
  try any_goals (refine H_reg ?_)
  try any_goals (refine W_move (d := 10) (sq_stepper hC) rfl rfl rfl ?_)
  try any_goals (refine W_ar (d := 11) (sq_stepper hC) rfl rfl rfl rfl rfl (by first | omega | (dsimp only; omega)) ?_)
  try any_goals (refine W_assign (d := 5) (sq_stepper hC) rfl rfl rfl ?_)
  try any_goals (refine Sq_nil ?_)
  try any_goals (refine G_again (i + 1, m + 1) ⟨by simp only; omega, by simp only; omega, by simp only; omega⟩ (by simp only; omega) (by repeat (first | exact trivial | refine ⟨⟨_, rfl, fun _ _ _ h => h⟩, ?_⟩ | refine ⟨⟨_, rfl, fun v w _ h => (show v = _ from h).trans (congrArg (Value.int .i64) (by first | omega | (dsimp only; omega)))⟩, ?_⟩)) (fun _ h => h))
  repeat (any_goals (first | refine G_exit_then ?_ | refine G_exit_here ?_ | refine G_exit_far rfl ?_ | refine G_normal_block ?_))
  try any_goals (refine W_move (d := 19) (sq_stepper hC) rfl rfl rfl ?_)
  try any_goals (refine W_assign (d := 4) (sq_stepper hC) rfl rfl rfl ?_)
  try any_goals ((refine Sq_nil ?_; try refine G_then ?_))
  try any_goals (refine H_ret ?_)
  repeat (any_goals (first | refine G_ret_then ?_ | refine G_ret_block ?_))
  all_goals exact R_mkx rfl rfl (by omega) (fun _ h => h)
theorem mx_LineS : MKX Tryz.prog 77 (ShS fLin.σ) 2199024304128 := by
  refine MKX_of Tryz.func77 rfl rfl rfl (fun w v S k hV hS hk => ?_)
  have hV0 := hV
  obtain ⟨A, n, c, rfl, hn, _⟩ := hV0
  have hC : UpC (Tn S w) := upC_tn
  try any_goals ((refine H_seq ?_; try refine H_reg ?_))
  try any_goals (refine W_assign (d := 4) (sq_stepper hC) rfl rfl rfl ?_)
  try any_goals ((refine Sq_nil ?_; try refine G_then ?_))
  try any_goals (refine H_seq ?_)
  try any_goals ((refine H_seq ?_; try refine H_reg ?_))
  try any_goals (refine W_assign (d := 5) (sq_stepper hC) rfl rfl rfl ?_)
  try any_goals ((refine Sq_nil ?_; try refine G_then ?_))
  try any_goals (refine H_block ?_)
  try any_goals ((refine H_loop (σ := Nat × Int) (fun x => x.1 ≤ n ∧ k ≤ x.2 ∧ x.2 ≤ k + 2097153 * x.1) (fun x => [(0, .inl (.slice A n c)), (1, .inl (.int .i64 x.2)), (5, .inl (.int .i64 x.1))]) (fun _ => Tn S w) (fun x => n - x.1) (0, k) ⟨Nat.zero_le _, by simp only; omega, by simp only; omega⟩ (fun a w h => h.sub (by repeat (first | exact trivial | refine ⟨⟨_, rfl, fun _ _ _ h => h⟩, ?_⟩ | refine ⟨⟨_, rfl, fun v w _ h => (show v = _ from h).trans (congrArg (Value.int .i64) (by first | omega | (dsimp only; omega)))⟩, ?_⟩)) fun _ h => h) (fun x hx => ?_); obtain ⟨i, m⟩ := x; obtain ⟨hi, hm1, hm2⟩ := hx; simp only at hi hm1 hm2))
  try any_goals (refine H_seq ?_)
  try any_goals ((refine H_seq ?_; try refine H_reg ?_))
  try any_goals (refine W_move (d := 6) (sq_stepper hC) rfl rfl rfl ?_)
  try any_goals (refine W_move (d := 7) (sq_stepper hC) rfl rfl rfl ?_)
  try any_goals (refine W_lenO (d := 8) (sq_stepper hC) (by kernel_rfl) rfl rfl rfl ?_)
  try any_goals (refine W_cmp (d := 9) (sq_stepper hC) rfl rfl rfl rfl rfl ?_)
  try any_goals ((refine Sq_nil ?_; try refine G_then ?_))
  try any_goals ((refine H_cond _ rfl (fun hq => ?_) (fun hq => ?_) <;> (try simp only [hqs, reduceCtorEq] at hq)))
  try any_goals (refine H_skip ?_)
  try any_goals (refine H_exit ?_)
  repeat (any_goals (first | refine G_exit_then ?_ | refine G_exit_here ?_ | refine G_exit_far rfl ?_))
  try any_goals (refine G_then ?_)
  try any_goals (refine H_seq ?_)
  try any_goals (refine H_block ?_)
  try any_goals (first | (refine H_seq ?_; try refine H_reg ?_) | refine H_reg ?_)
  try any_goals (refine W_move (d := 12) (sq_stepper hC) rfl rfl rfl ?_)
  try any_goals (refine W_move (d := 13) (sq_stepper hC) rfl rfl rfl ?_)
  try any_goals (refine W_move (d := 14) (sq_stepper hC) rfl rfl rfl ?_)
  try any_goals ((refine Sq_text hC (ct_markText _ (by omega)) rfl rfl (by kernel_rfl) (fun s0 => ?_)))
  try any_goals ((obtain ⟨b, rfl⟩ := hV.some_ (by omega); refine W_indexO (d := 16) (s := Shp.k fLin.σ) (sq_stepper hC) (by kernel_rfl) rfl rfl rfl rfl (by omega) ?_))
  try any_goals (refine W_fieldC (d := 17) (sq_stepper hC) (off := 0) (by kernel_rfl) rfl rfl rfl ?_)
  try any_goals ((refine Sq_storeT hV (i := i) (by omega) PrS.head (fun _ _ _ ⟨x, hx⟩ => ⟨_, hx, _, rfl⟩) rfl (by kernel_rfl) rfl (by first | rfl | (simp only [Int.toNat_natCast, Nat.add_zero]; rfl)) rfl ?_; have hC : UpC (Tn S w) := upC_tn))
  try any_goals ((refine Sq_nil ?_; try refine G_then ?_))
  try any_goals ((refine H_seq ?_; try refine H_reg ?_))
  try any_goals (refine W_move (d := 18) (sq_stepper hC) rfl rfl rfl ?_)
  try any_goals (refine W_ar (d := 19) (sq_stepper hC) rfl rfl rfl rfl rfl (by first | omega | (dsimp only; omega)) ?_)
  try any_goals (refine W_assign (d := 1) (sq_stepper hC) rfl rfl rfl ?_)
  try any_goals ((refine Sq_nil ?_; try refine G_then ?_))
  try any_goals ((refine H_seq ?_; try refine H_reg ?_))
  try any_goals (refine W_move (d := 20) (sq_stepper hC) rfl rfl rfl ?_)
  try any_goals (refine W_move (d := 21) (sq_stepper hC) rfl rfl rfl ?_)
  try any_goals (refine W_indexO (d := 22) (s := Shp.k fLin.σ) (sq_stepper hC) (by kernel_rfl) rfl rfl rfl rfl (by omega) ?_)
  try any_goals (refine W_fieldC (d := 23) (sq_stepper hC) (off := 1) (by kernel_rfl) rfl rfl rfl ?_)
  try any_goals (refine W_loadT (d := 24) (sq_stepper hC) hV (i := i) (ρ := sI) (by omega) (PrS.tail PrS.head) (by kernel_rfl) rfl rfl rfl (by first | rfl | (simp only [Int.toNat_natCast, Nat.add_zero]; rfl)) ?_)
  try any_goals (refine W_move (d := 25) (sq_stepper hC) rfl rfl rfl ?_)
  try any_goals ((refine Sq_callM (k := m + 1) mx_IntS rfl (fun _ _ _ h => h) hS rfl rfl (by omega) (by kernel_rfl) (fun k1 hk1 => ?_); have hC : UpC (Tn S w) := upC_tn))
  try any_goals (refine W_assign (d := 1) (sq_stepper hC) rfl rfl rfl ?_)
  try any_goals ((refine Sq_nil ?_; try refine G_then ?_))
  try any_goals (refine H_reg ?_)
  try any_goals (refine W_move (d := 27) (sq_stepper hC) rfl rfl rfl ?_)
  try any_goals (refine W_move (d := 28) (sq_stepper hC) rfl rfl rfl ?_)
  try any_goals (refine W_indexO (d := 29) (s := Shp.k fLin.σ) (sq_stepper hC) (by kernel_rfl) rfl rfl rfl rfl (by omega) ?_)
  try any_goals (refine W_fieldC (d := 30) (sq_stepper hC) (off := 2) (by kernel_rfl) rfl rfl rfl ?_)
  try any_goals (refine W_loadT (d := 31) (sq_stepper hC) hV (i := i) (ρ := sI) (by omega) (PrS.tail (PrS.tail PrS.head)) (by kernel_rfl) rfl rfl rfl (by first | rfl | (simp only [Int.toNat_natCast, Nat.add_zero]; rfl)) ?_)
  try any_goals (refine W_move (d := 32) (sq_stepper hC) rfl rfl rfl ?_)
  try any_goals ((refine Sq_callM (k := k1) mx_IntS rfl (fun _ _ _ h => h) hS rfl rfl (by omega) (by kernel_rfl) (fun k2 hk2 => ?_); have hC : UpC (Tn S w) := upC_tn))
  try any_goals (refine W_assign (d := 1) (sq_stepper hC) rfl rfl rfl ?_)
  try any_goals (refine Sq_nil ?_)
  repeat (any_goals (first | refine G_exit_then ?_ | refine G_exit_here ?_ | refine G_exit_far rfl ?_ | refine G_normal_block ?_))
  try any_goals (refine G_then ?_)
  try any_goals (refine H_reg ?_)
  try any_goals (refine W_move (d := 10) (sq_stepper hC) rfl rfl rfl ?_)
  try any_goals (refine W_ar (d := 11) (sq_stepper hC) rfl rfl rfl rfl rfl (by first | omega | (dsimp only; omega)) ?_)
  try any_goals (refine W_assign (d := 5) (sq_stepper hC) rfl rfl rfl ?_)
  try any_goals (refine Sq_nil ?_)
  try any_goals (refine G_again (i + 1, k2) ⟨by simp only; omega, by simp only; omega, by simp only; omega⟩ (by simp only; omega) (by repeat (first | exact trivial | refine ⟨⟨_, rfl, fun _ _ _ h => h⟩, ?_⟩ | refine ⟨⟨_, rfl, fun v w _ h => (show v = _ from h).trans (congrArg (Value.int .i64) (by first | omega | (dsimp only; omega)))⟩, ?_⟩)) (fun _ h => h))
  repeat (any_goals (first | refine G_exit_then ?_ | refine G_exit_here ?_ | refine G_exit_far rfl ?_ | refine G_normal_block ?_))
  try any_goals (refine W_move (d := 34) (sq_stepper hC) rfl rfl rfl ?_)
  try any_goals (refine W_assign (d := 4) (sq_stepper hC) rfl rfl rfl ?_)
  try any_goals ((refine Sq_nil ?_; try refine G_then ?_))
  try any_goals (refine H_ret ?_)
  repeat (any_goals (first | refine G_ret_then ?_ | refine G_ret_block ?_))
  all_goals exact R_mkx rfl rfl (by omega) (fun _ h => h)
theorem mx_Net : MKX Tryz.prog 46 (ShA fNet.σ) 2199025352704 := by
  refine MKX_of Tryz.func46 rfl rfl rfl (fun w v S k hV hS hk => ?_)
  obtain ⟨cs, rfl, hφ⟩ := hV
  obtain ⟨_, _, rfl, ⟨u0, rfl, hu0⟩, _, _, rfl, ⟨u1, rfl, hu1⟩, rfl⟩ := hφ
  have hC : UpC (Tn S w) := upC_tn
  refine H_keep [(0, .inl (.agg (([u0, u1] : List Value)).toArray)), (1, .inl (.int .i64 k))] (by repeat (first | exact trivial | refine ⟨⟨_, rfl, fun _ _ _ h => h⟩, ?_⟩ | refine ⟨⟨_, rfl, fun v w _ h => (show v = _ from h).trans (congrArg (Value.int .i64) (by first | omega | (dsimp only; omega)))⟩, ?_⟩)) ?_
  try any_goals ((refine H_seq ?_; try refine H_reg ?_))
  try any_goals (refine W_boxT (d := 2) (sq_stepper hC) (cs := [u0, u1]) (s := w.heap.size) (fun w' h => h.keep.size) rfl rfl rfl ?_)
  try any_goals (refine W_assign (d := 4) (sq_stepper hC) rfl rfl rfl ?_)
  try any_goals ((refine Sq_nil ?_; try refine G_then ?_))
  try any_goals (refine H_seq ?_)
  try any_goals (refine H_open 2 rfl (fun wr v1 hw hv1 => ?_); obtain ⟨g, rfl, hg, hbk⟩ := hv1; refine H_weakenC (C' := Tn S wr) (fun w' h => Tn.of_ext h) ?_; have hu0 := hu0.up hw; have hu1 := hu1.up hw; have hS1 : ∀ b, S b → b < wr.heap.size := fun b hb => Nat.lt_of_lt_of_le (hS b hb) hw.keep.size; have hcg := fun (w' : World) (h : Tn S wr w') => h.keep.blk hbk (fun hs => absurd (hS g hs) (by omega)); have hC : UpC (Tn S wr) := upC_tn)
  try any_goals (refine H_reg ?_)
  try any_goals (refine W_fieldC (d := 5) (sq_stepper hC) (off := 0) (by kernel_rfl) rfl rfl rfl ?_)
  try any_goals (refine W_loadO (d := 6) (sq_stepper hC) (by kernel_rfl) rfl rfl rfl (fun w' h => (hcg w' h).cell rfl) ?_)
  try any_goals (refine W_move (d := 7) (sq_stepper hC) rfl rfl rfl ?_)
  try any_goals ((refine Sq_callM (k := k) mx_StringS rfl (fun v w' h hv => by rw [show v = _ from hv]; exact hu0.up h) hS1 rfl rfl (by omega) (by kernel_rfl) (fun k0 hk0 => ?_); have hC : UpC (Tn S wr) := upC_tn))
  try any_goals (refine W_assign (d := 1) (sq_stepper hC) rfl rfl rfl ?_)
  try any_goals ((refine Sq_nil ?_; try refine G_then ?_))
  try any_goals ((refine H_seq ?_; try refine H_reg ?_))
  try any_goals (refine W_fieldC (d := 9) (sq_stepper hC) (off := 1) (by kernel_rfl) rfl rfl rfl ?_)
  try any_goals (refine W_loadO (d := 10) (sq_stepper hC) (by kernel_rfl) rfl rfl rfl (fun w' h => (hcg w' h).cell rfl) ?_)
  try any_goals (refine W_move (d := 11) (sq_stepper hC) rfl rfl rfl ?_)
  try any_goals ((refine Sq_callM (k := k0) mx_LineS rfl (fun v w' h hv => by rw [show v = _ from hv]; exact hu1.up h) hS1 rfl rfl (by omega) (by kernel_rfl) (fun k1 hk1 => ?_); have hC : UpC (Tn S wr) := upC_tn))
  try any_goals (refine W_assign (d := 1) (sq_stepper hC) rfl rfl rfl ?_)
  try any_goals ((refine Sq_nil ?_; try refine G_then ?_))
  try any_goals ((refine H_seq ?_; try refine H_reg ?_))
  try any_goals (refine W_move (d := 13) (sq_stepper hC) rfl rfl rfl ?_)
  try any_goals (refine W_assign (d := 4) (sq_stepper hC) rfl rfl rfl ?_)
  try any_goals ((refine Sq_nil ?_; try refine G_then ?_))
  try any_goals (refine H_ret ?_)
  repeat (any_goals (first | refine G_ret_then ?_ | refine G_ret_block ?_))
  all_goals exact R_mkx rfl rfl (by omega) (fun _ h => hw.trans h)
theorem mx_Tab : MKX Tryz.prog 19 (ShA fTab.σ) 2199028498432 := by
  refine MKX_of Tryz.func19 rfl rfl rfl (fun w v S k hV hS hk => ?_)
  obtain ⟨cs, rfl, hφ⟩ := hV
  obtain ⟨_, _, rfl, ⟨_, _, rfl, ⟨u0, rfl, hu0⟩, _, _, rfl, ⟨u1, rfl, hu1⟩, rfl⟩, _, _, rfl, ⟨u2, rfl, hu2⟩, rfl⟩ := hφ
  have hC : UpC (Tn S w) := upC_tn
  refine H_keep [(0, .inl (.agg (([u0, u1, u2] : List Value)).toArray)), (1, .inl (.int .i64 k))] (by repeat (first | exact trivial | refine ⟨⟨_, rfl, fun _ _ _ h => h⟩, ?_⟩ | refine ⟨⟨_, rfl, fun v w _ h => (show v = _ from h).trans (congrArg (Value.int .i64) (by first | omega | (dsimp only; omega)))⟩, ?_⟩)) ?_
  try any_goals ((refine H_seq ?_; try refine H_reg ?_))
  try any_goals (refine W_boxT (d := 2) (sq_stepper hC) (cs := [u0, u1, u2]) (s := w.heap.size) (fun w' h => h.keep.size) rfl rfl rfl ?_)
  try any_goals (refine W_assign (d := 4) (sq_stepper hC) rfl rfl rfl ?_)
  try any_goals ((refine Sq_nil ?_; try refine G_then ?_))
  try any_goals (refine H_seq ?_)
  try any_goals (refine H_open 2 rfl (fun wr v1 hw hv1 => ?_); obtain ⟨g, rfl, hg, hbk⟩ := hv1; refine H_weakenC (C' := Tn S wr) (fun w' h => Tn.of_ext h) ?_; have hu0 := hu0.up hw; have hu1 := hu1.up hw; have hu2 := hu2.up hw; have hS1 : ∀ b, S b → b < wr.heap.size := fun b hb => Nat.lt_of_lt_of_le (hS b hb) hw.keep.size; have hcg := fun (w' : World) (h : Tn S wr w') => h.keep.blk hbk (fun hs => absurd (hS g hs) (by omega)); have hC : UpC (Tn S wr) := upC_tn)
  try any_goals (refine H_reg ?_)
  try any_goals (refine W_fieldC (d := 5) (sq_stepper hC) (off := 0) (by kernel_rfl) rfl rfl rfl ?_)
  try any_goals (refine W_loadAT (d := 6) (sq_stepper hC) (cs := [u0, u1]) (by kernel_rfl) rfl rfl rfl rfl (fun w' hw' j v hj => match j, hj with | 0, h => (by simp at h; subst h; exact (hcg w' hw').cell rfl) | 1, h => (by simp at h; subst h; exact (hcg w' hw').cell rfl) | _ + 2, h => (by simp at h)) ?_)
  try any_goals (refine W_move (d := 7) (sq_stepper hC) rfl rfl rfl ?_)
  try any_goals ((refine Sq_callM (k := k) mx_Net rfl (fun v w' h hv => by rw [show v = _ from hv]; exact ⟨[u0, u1], rfl, ⟨_, _, rfl, ⟨_, rfl, hu0.up h⟩, _, _, rfl, ⟨_, rfl, hu1.up h⟩, rfl⟩⟩) hS1 rfl rfl (by omega) (by kernel_rfl) (fun k0 hk0 => ?_); have hC : UpC (Tn S wr) := upC_tn))
  try any_goals (refine W_assign (d := 1) (sq_stepper hC) rfl rfl rfl ?_)
  try any_goals ((refine Sq_nil ?_; try refine G_then ?_))
  try any_goals ((refine H_seq ?_; try refine H_reg ?_))
  try any_goals (refine W_fieldC (d := 9) (sq_stepper hC) (off := 2) (by kernel_rfl) rfl rfl rfl ?_)
  try any_goals (refine W_loadO (d := 10) (sq_stepper hC) (by kernel_rfl) rfl rfl rfl (fun w' h => (hcg w' h).cell rfl) ?_)
  try any_goals (refine W_move (d := 11) (sq_stepper hC) rfl rfl rfl ?_)
  try any_goals ((refine Sq_callM (k := k0) mx_TripS rfl (fun v w' h hv => by rw [show v = _ from hv]; exact hu2.up h) hS1 rfl rfl (by omega) (by kernel_rfl) (fun k1 hk1 => ?_); have hC : UpC (Tn S wr) := upC_tn))
  try any_goals (refine W_assign (d := 1) (sq_stepper hC) rfl rfl rfl ?_)
  try any_goals ((refine Sq_nil ?_; try refine G_then ?_))
  try any_goals ((refine H_seq ?_; try refine H_reg ?_))
  try any_goals (refine W_move (d := 13) (sq_stepper hC) rfl rfl rfl ?_)
  try any_goals (refine W_assign (d := 4) (sq_stepper hC) rfl rfl rfl ?_)
  try any_goals ((refine Sq_nil ?_; try refine G_then ?_))
  try any_goals (refine H_ret ?_)
  repeat (any_goals (first | refine G_ret_then ?_ | refine G_ret_block ?_))
  all_goals exact R_mkx rfl rfl (by omega) (fun _ h => hw.trans h)
end Go.Proofs.YtanlaggnhocjhaaGreat

/- slices.Insert of one delay into a list of one's own. -/
import Derived.Test.YtikijhclakccpaaCpy
import Derived.Test.YtikijhclakccpaaApr
namespace Go.Proofs.Ytikijhclakccpaa
set_option linter.unusedSimpArgs false
set_option linter.unusedVariables false
open Go.RowKit Go.ChangeShapes Go.WideShapes Go.ChangeAt Go.Deep
section
variable {P : Program} {ops : Array Oper} {C : World → Prop} {N : Nat} {M : List (Nat × Pr) → List Oper → Prop} {K : List (Nat × Pr)} {rest : List Oper} {d : Nat} {ty : TypeId} {pos : String} {af : Array Edge} {g : Option (Nat × Bool)}
theorem W_capO (hM : Stepper P ops C N M) {x : Operand} {t : TypeId} {A : Option Addr} {n c : Nat} (hB : sliceB P t = true) (hg : wantedK ops K g = some true) (hN : Nat.blt d N = true) (hx : kn K x = some (.inl (.slice A n c)))
    (h : M ((d, .inl (.int .i64 c)) :: K) rest) : M K (⟨some d, .call { callee := .builtin .cap, args := #[x], argTypes := #[t] }, ty, pos, af, g⟩ :: rest) :=
  W_val hM hN hg (fun ρ w _ hk => by
    have hv : ρ x = .slice A n c := hk x (by simp [Op.operands, Call.operands]) _ hx
    have ht : ∃ e, P.underlying t = some (.slice e) := by
      unfold sliceB at hB
      split at hB
      · rename_i e he; exact ⟨e, he⟩
      · cases hB
    obtain ⟨e, he⟩ := ht
    simp [execOp, resolve, invoke, builtin, hv, Builtin.cap_, run_underlying he, goInt]) h
theorem W_sliceVF (hM : Stepper P ops C N M) {x y : Operand} {t : TypeId} {p : Option Addr} {i : Int} {n c k : Nat} (hB : elemB P t k = true) (hg : wantedK ops K g = some true) (hN : Nat.blt d N = true)
    (hx : kn K x = some (.inl (.slice p n c))) (hy : kn K y = some (.inl (.int .i64 i))) (hi : 0 ≤ i ∧ i ≤ (n : Int))
    (h : M ((d, .inl (.slice (if c = i.toNat then p else p.map (·.add (i.toNat * k))) (n - i.toNat) (c - i.toNat))) :: K) rest) : M K (⟨some d, .slice t x (some y) none none, ty, pos, af, g⟩ :: rest) :=
  W_val hM hN hg (fun ρ w _ hk => by
    have hv : ρ x = .slice p n c := hk x (by simp [Op.operands]) _ hx
    have hyv : ρ y = .int .i64 i := hk y (by simp [Op.operands]) _ hy
    obtain ⟨te, inf, hu, hinf, hsz⟩ := elemB_spec hB
    by_cases e : c = i.toNat
    · simp [execOp, hv, hyv, Instr.sliceAt, Instr.slice, Instr.sliceBounds, Instr.sliceBound, asIntOf, run_underlying hu, sizeOf_run hinf, hsz, hi, e]
    · simp [execOp, hv, hyv, Instr.sliceAt, Instr.slice, Instr.sliceBounds, Instr.sliceBound, asIntOf, run_underlying hu, sizeOf_run hinf, hsz, hi, e]) h
end
theorem lsD_get {xs : List Dly} {cs : List Value} {w : World} (h : LS pDly xs cs w) {j : Nat} {z : Dly} (hz : xs[j]? = some z) : cs[j * 2]? = some (.int .i64 z.T) ∧ cs[j * 2 + 1]? = some (.int .i64 z.M) := by
  have h1 := pDly_c (h j z hz)
  have hk : pDly.k = 2 := rfl
  rw [hk] at h1
  have e : ∀ q : Nat, q < 2 → ((cs.drop (j * 2)).take 2)[q]? = cs[j * 2 + q]? := fun q hq => by rw [List.getElem?_take, if_pos hq, List.getElem?_drop]
  have e0 := e 0 (by omega)
  have e1 := e 1 (by omega)
  rw [h1] at e0 e1
  exact ⟨e0.symm, e1.symm⟩
theorem lsD_mk {xs : List Dly} {cs : List Value} {w : World} (h : ∀ (j : Nat) z, xs[j]? = some z → cs[j * 2]? = some (.int .i64 z.T) ∧ cs[j * 2 + 1]? = some (.int .i64 z.M)) : LS pDly xs cs w := fun j z hz => by
  obtain ⟨h0, h1⟩ := h j z hz
  have hk : pDly.k = 2 := rfl
  rw [hk]
  have e : (cs.drop (j * 2)).take 2 = [.int .i64 z.T, .int .i64 z.M] := by
    apply List.ext_getElem?
    intro q
    rw [List.getElem?_take]
    split
    · rw [List.getElem?_drop]
      rcases (show q = 0 ∨ q = 1 by omega) with rfl | rfl
      · exact h0
      · exact h1
    · rw [List.getElem?_eq_none (by simp; omega)]
  rw [e]
  exact pDly_i _ _ w
/-- What the cells must be like after the insertion. -/
structure InsC (cs zs F : List Value) (n i : Nat) : Prop where
  a : ∀ r : Nat, r < i * 2 → F[r]? = cs[r]?
  b : ∀ q : Nat, q < 2 → F[i * 2 + q]? = zs[q]?
  c : ∀ r : Nat, r < (n - i) * 2 → F[(i + 1) * 2 + r]? = cs[i * 2 + r]?
theorem InsC.ls {cs zs F : List Value} {xs : List Dly} {z : Dly} {i : Nat} {w w' : World} (h : InsC cs zs F xs.length i) (hi : i ≤ xs.length) (hx : LS pDly xs cs w) (hz : LS pDly [z] zs w) : LS pDly (xs.take i ++ z :: xs.drop i) F w' := lsD_mk fun j y hy => by
  have hz0 := lsD_get hz (j := 0) rfl
  rcases Nat.lt_trichotomy j i with hj | hj | hj
  · rw [List.getElem?_append_left (by rw [List.length_take]; omega), List.getElem?_take, if_pos hj] at hy
    have := lsD_get hx hy
    rw [h.a _ (by omega), h.a _ (by omega)]
    exact this
  · subst hj
    rw [List.getElem?_append_right (by rw [List.length_take]; omega), List.length_take, show j - min j xs.length = 0 by omega] at hy
    injection hy with hy
    subst hy
    have e0 := h.b 0 (by omega)
    have e1 := h.b 1 (by omega)
    rw [Nat.add_zero] at e0
    rw [e0, e1]
    exact hz0
  · rw [List.getElem?_append_right (by rw [List.length_take]; omega), List.length_take, show j - min i xs.length = (j - i - 1) + 1 by omega, List.getElem?_cons_succ, List.getElem?_drop, show i + (j - i - 1) = j - 1 by omega] at hy
    have hjl := (List.getElem?_eq_some_iff.1 hy).1
    have := lsD_get hx hy
    have e0 := h.c ((j - 1 - i) * 2) (by omega)
    have e1 := h.c ((j - 1 - i) * 2 + 1) (by omega)
    rw [show (i + 1) * 2 + (j - 1 - i) * 2 = j * 2 by omega, show i * 2 + (j - 1 - i) * 2 = (j - 1) * 2 by omega] at e0
    rw [show (i + 1) * 2 + ((j - 1 - i) * 2 + 1) = j * 2 + 1 by omega, show i * 2 + ((j - 1 - i) * 2 + 1) = (j - 1) * 2 + 1 by omega] at e1
    rw [e0, e1]
    exact this
def insS (cs : List Value) (n i : Nat) : List Value := (cs.drop (i * 2)).take ((n - i) * 2)
theorem insS_get {cs : List Value} {n i r : Nat} (h : r < (n - i) * 2) : (insS cs n i)[r]? = cs[i * 2 + r]? := by rw [insS, List.getElem?_take, if_pos h, List.getElem?_drop]
theorem insS_len {cs : List Value} {n i c : Nat} (hcl : cs.length = c * 2) (hn : n ≤ c) (hi : i ≤ n) : (insS cs n i).length = (n - i) * 2 := by rw [insS, List.length_take, List.length_drop]; omega
theorem insS_cell {cs : List Value} {n i b : Nat} {e : TypeId} {w : World} (hB : Blk w b e cs) (j : Nat) (u : Value) (hj : (insS cs n i)[j]? = some u) : w.cell? ⟨b, i * 2 + j, none⟩ = some u := by
  have hjl := (List.getElem?_eq_some_iff.1 hj).1
  rw [insS, List.length_take] at hjl
  rw [insS_get (by omega)] at hj
  exact hB.cell hj
theorem insR_ok {cs zs : List Value} {n i c : Nat} (hcl : cs.length = c * 2) (hn : n + 1 ≤ c) (hi : i ≤ n) (hz : zs.length = 2) : InsC cs zs (putL (putL cs ((i + 1) * 2) (insS cs n i)) (i * 2) zs) n i := by
  have hsl := insS_len (i := i) hcl (show n ≤ c by omega) hi
  have hl1 : (putL cs ((i + 1) * 2) (insS cs n i)).length = cs.length := putL_length (by rw [hsl]; omega)
  refine ⟨fun r hr => ?_, fun q hq => ?_, fun r hr => ?_⟩
  · rw [putL_out (by rw [hl1, hz]; omega) (.inl hr), putL_out (by rw [hsl]; omega) (.inl (by omega))]
  · have hu : zs[q]? = some (zs[q]'(by omega)) := List.getElem?_eq_getElem _
    rw [putL_in (by rw [hl1, hz]; omega) hu, hu]
  · have hu : (insS cs n i)[r]? = some ((insS cs n i)[r]'(by rw [hsl]; exact hr)) := List.getElem?_eq_getElem _
    rw [putL_out (by rw [hl1, hz]; omega) (.inr (by rw [hz]; omega)), putL_in (by rw [hsl]; omega) hu, ← hu, insS_get hr]
theorem insG_ok {cs cs' zs : List Value} {n i c c' : Nat} (hcl : cs.length = c * 2) (hn : n ≤ c) (hi : i ≤ n) (hz : zs.length = 2) (hcl' : cs'.length = c' * 2) (hn' : n + 1 ≤ c') (ht : cs'.take (i * 2) = cs.take (i * 2)) : InsC cs zs (putL (putL cs' (i * 2) zs) ((i + 1) * 2) (insS cs n i)) n i := by
  have hsl := insS_len (i := i) hcl hn hi
  have hl1 : (putL cs' (i * 2) zs).length = cs'.length := putL_length (by rw [hz]; omega)
  refine ⟨fun r hr => ?_, fun q hq => ?_, fun r hr => ?_⟩
  · rw [putL_out (by rw [hl1, hsl]; omega) (.inl (by omega)), putL_out (by rw [hz]; omega) (.inl hr)]
    have e := congrArg (fun l : List Value => l[r]?) ht
    simp only [List.getElem?_take, if_pos hr] at e
    exact e
  · have hu : zs[q]? = some (zs[q]'(by omega)) := List.getElem?_eq_getElem _
    rw [putL_out (by rw [hl1, hsl]; omega) (.inl (by omega)), putL_in (by rw [hz]; omega) hu, hu]
  · have hu : (insS cs n i)[r]? = some ((insS cs n i)[r]'(by rw [hsl]; exact hr)) := List.getElem?_eq_getElem _
    rw [putL_in (by rw [hl1, hsl]; omega) hu, ← hu, insS_get hr]
theorem Sep.ne01 {w0 w : World} {L : List Osl} {e1 e2 : TypeId} {b1 b2 : Nat} {c1 c2 : List Value} (h : Sep w0 (.raw e1 b1 c1 :: .raw e2 b2 c2 :: L) w) : b2 ≠ b1 := by
  unfold Sep at h
  obtain ⟨Bs, hl, hc⟩ := h
  intro e
  subst e
  have h0l : 0 < Bs.length := by rw [hl]; simp
  have h1l : 1 < Bs.length := by rw [hl]; simp
  have e0 := hc.fct 0 _ _ rfl (List.getElem?_eq_getElem h0l)
  have e1 := hc.fct 1 _ _ rfl (List.getElem?_eq_getElem h1l)
  have := nodup_far (f := fun x : Option Nat × TypeId × List Value => x.1) hc.nd (List.getElem?_eq_getElem h0l) (List.getElem?_eq_getElem h1l) (g := b2) (by rw [show Bs[0] = _ from e0]) (by rw [show Bs[1] = _ from e1])
  omega
theorem cx_InsD0 {w0 : World} {L : List Osl} {b c bz cz : Nat} {cs csz : List Value} (n i : Nat) (hav : avAll L 84) (hi : i < n) (hnc : n ≤ c) (hcm : c ≤ maxLen) (hcl : cs.length = c * 2) (hzl : csz.length = cz * 2) (hz1 : 1 ≤ cz) (h1 : ∀ u ∈ insS cs n i, u.oneCell' = true) (h2 : ∀ u ∈ csz.take 2, u.oneCell' = true) (hn : n ≤ 1048576) (hne : bz ≠ b) :
    CTX Try.prog 95 (Sep w0 (.raw 84 b cs :: .raw 84 bz csz :: L)) [.inl (.slice (some ⟨b, 0, none⟩) n c), .inl (.int .i64 (i : Int)), .inl (.slice (some ⟨bz, 0, none⟩) 1 cz)] (σ := Nat × Nat × List Value) (fun y w => Sep w0 (.raw 84 y.1 y.2.2 :: L) w ∧ (n + 1 ≤ y.2.1 ∧ y.2.1 ≤ maxLen) ∧ y.2.2.length = y.2.1 * 2 ∧ InsC cs (csz.take 2) y.2.2 n i) (fun y => .inl (.slice (some ⟨y.1, 0, none⟩) (n + 1) y.2.1)) := by
  have hz2 : (csz.take 2).length = 2 := by rw [List.length_take]; omega
  have hsl := insS_len (i := i) hcl hnc (show i ≤ n by omega)
  have hcc : ∃ v2 cs2, cs = v2 :: cs2 := by
    cases cs with
    | nil => simp at hcl; omega
    | cons v2 cs2 => exact ⟨v2, cs2, rfl⟩
  have hzc : ∀ {w : World}, Blk w bz 84 csz → ∀ j u, (csz.take 2)[j]? = some u → w.cell? ⟨bz, 0 + j, none⟩ = some u := fun hB j u hj => by
    have hjl := (List.getElem?_eq_some_iff.1 hj).1
    rw [hz2] at hjl
    rw [List.getElem?_take, if_pos hjl] at hj
    rw [Nat.zero_add]
    exact hB.cell hj
  refine CTX_of Try.func95 rfl rfl rfl ?_
  try any_goals (first | (refine H_seq ?_; try refine H_reg ?_) | refine H_reg ?_)
  try any_goals (first | refine W_assign (d := 6) (sq_stepper upC_sep) rfl rfl rfl ?_ | refine W_capO (d := 6) (sq_stepper upC_sep) (by kernel_rfl) rfl rfl rfl ?_)
  try any_goals (first | (refine Sq_nil ?_; try refine G_then ?_) | refine G_then ?_)
  try any_goals (first | (refine H_seq ?_; try refine H_reg ?_) | refine H_reg ?_)
  try any_goals (first | refine W_move (d := 10) (sq_stepper upC_sep) rfl rfl rfl ?_ | refine W_capO (d := 10) (sq_stepper upC_sep) (by kernel_rfl) rfl rfl rfl ?_)
  try any_goals (first | refine W_move (d := 11) (sq_stepper upC_sep) rfl rfl rfl ?_ | refine W_capO (d := 11) (sq_stepper upC_sep) (by kernel_rfl) rfl rfl rfl ?_)
  try any_goals (refine W_sliceVFrom (d := 12) (sq_stepper upC_sep) (k := 2) (by kernel_rfl) rfl rfl rfl rfl (by omega) ?_)
  try any_goals (first | (refine Sq_nil ?_; try refine G_then ?_) | refine G_then ?_)
  try any_goals (first | (refine H_seq ?_; try refine H_reg ?_) | refine H_reg ?_)
  try any_goals (first | refine W_move (d := 13) (sq_stepper upC_sep) rfl rfl rfl ?_ | refine W_capO (d := 13) (sq_stepper upC_sep) (by kernel_rfl) rfl rfl rfl ?_)
  try any_goals (first | refine W_len (d := 14) (sq_stepper upC_sep) (by kernel_rfl) rfl rfl rfl ?_ | refine W_lenStr (d := 14) (sq_stepper upC_sep) (by kernel_rfl) rfl rfl rfl ?_ | refine W_lenO (d := 14) (sq_stepper upC_sep) (by kernel_rfl) rfl rfl rfl ?_ | refine W_capO (d := 14) (sq_stepper upC_sep) (by kernel_rfl) rfl rfl rfl ?_)
  try any_goals (first | refine W_assign (d := 7) (sq_stepper upC_sep) rfl rfl rfl ?_ | refine W_capO (d := 7) (sq_stepper upC_sep) (by kernel_rfl) rfl rfl rfl ?_)
  try any_goals (first | (refine Sq_nil ?_; try refine G_then ?_) | refine G_then ?_)
  try any_goals (refine H_seq ?_)
  try any_goals (first | (refine H_seq ?_; try refine H_reg ?_) | refine H_reg ?_)
  try any_goals (first | refine W_move (d := 15) (sq_stepper upC_sep) rfl rfl rfl ?_ | refine W_capO (d := 15) (sq_stepper upC_sep) (by kernel_rfl) rfl rfl rfl ?_)
  try any_goals (first | refine W_cmp (d := 16) (sq_stepper upC_sep) rfl rfl rfl rfl rfl ?_ | refine W_eqlStr (d := 16) (sq_stepper upC_sep) rfl rfl rfl rfl ?_ | refine W_eqlB (d := 16) (sq_stepper upC_sep) rfl rfl Try.underlying4 rfl rfl ?_ | refine W_capO (d := 16) (sq_stepper upC_sep) (by kernel_rfl) rfl rfl rfl ?_)
  try any_goals (first | (refine Sq_nil ?_; try refine G_then ?_) | refine G_then ?_)
  try any_goals (first | refine H_condT rfl ?_ | refine H_condF rfl (Wt.un 0 ?_) | (refine H_cond _ rfl (fun hq => ?_) (fun hq => Wt.un 0 ?_) <;> (try simp only [hqs, reduceCtorEq] at hq)))
  try any_goals (first | (refine H_seq ?_; try refine H_reg ?_) | refine H_reg ?_)
  try any_goals (first | refine W_move (d := 17) (sq_stepper upC_sep) rfl rfl rfl ?_ | refine W_capO (d := 17) (sq_stepper upC_sep) (by kernel_rfl) rfl rfl rfl ?_)
  try any_goals (first | refine W_assign (d := 6) (sq_stepper upC_sep) rfl rfl rfl ?_ | refine W_capO (d := 6) (sq_stepper upC_sep) (by kernel_rfl) rfl rfl rfl ?_)
  try any_goals (first | (refine Sq_nil ?_; try refine G_then ?_) | refine G_then ?_)
  try any_goals (refine H_ret ?_)
  repeat (any_goals (first | refine G_ret_then ?_ | refine G_ret_block ?_))
  try any_goals (refine G_hold 1 ?_)
  try any_goals (refine Wt.out 0 ?_)
  try any_goals (refine H_skip ?_)
  try any_goals (refine Wt.out 1 ?_)
  try any_goals (refine G_then ?_)
  try any_goals (first | (refine H_seq ?_; try refine H_reg ?_) | refine H_reg ?_)
  try any_goals (first | refine W_move (d := 18) (sq_stepper upC_sep) rfl rfl rfl ?_ | refine W_capO (d := 18) (sq_stepper upC_sep) (by kernel_rfl) rfl rfl rfl ?_)
  try any_goals (first | refine W_len (d := 19) (sq_stepper upC_sep) (by kernel_rfl) rfl rfl rfl ?_ | refine W_lenStr (d := 19) (sq_stepper upC_sep) (by kernel_rfl) rfl rfl rfl ?_ | refine W_lenO (d := 19) (sq_stepper upC_sep) (by kernel_rfl) rfl rfl rfl ?_ | refine W_capO (d := 19) (sq_stepper upC_sep) (by kernel_rfl) rfl rfl rfl ?_)
  try any_goals (first | refine W_assign (d := 8) (sq_stepper upC_sep) rfl rfl rfl ?_ | refine W_capO (d := 8) (sq_stepper upC_sep) (by kernel_rfl) rfl rfl rfl ?_)
  try any_goals (first | (refine Sq_nil ?_; try refine G_then ?_) | refine G_then ?_)
  try any_goals (refine H_seq ?_)
  try any_goals (first | (refine H_seq ?_; try refine H_reg ?_) | refine H_reg ?_)
  try any_goals (first | refine W_move (d := 20) (sq_stepper upC_sep) rfl rfl rfl ?_ | refine W_capO (d := 20) (sq_stepper upC_sep) (by kernel_rfl) rfl rfl rfl ?_)
  try any_goals (first | refine W_move (d := 21) (sq_stepper upC_sep) rfl rfl rfl ?_ | refine W_capO (d := 21) (sq_stepper upC_sep) (by kernel_rfl) rfl rfl rfl ?_)
  try any_goals (first | refine W_cmp (d := 22) (sq_stepper upC_sep) rfl rfl rfl rfl rfl ?_ | refine W_eqlStr (d := 22) (sq_stepper upC_sep) rfl rfl rfl rfl ?_ | refine W_eqlB (d := 22) (sq_stepper upC_sep) rfl rfl Try.underlying4 rfl rfl ?_ | refine W_capO (d := 22) (sq_stepper upC_sep) (by kernel_rfl) rfl rfl rfl ?_)
  try any_goals (first | (refine Sq_nil ?_; try refine G_then ?_) | refine G_then ?_)
  try any_goals (first | refine H_condT rfl ?_ | refine H_condF rfl (Wt.un 2 ?_) | (refine H_cond _ rfl (fun hq => ?_) (fun hq => Wt.un 2 ?_) <;> (try simp only [hqs, reduceCtorEq] at hq)))
  try any_goals (first | (refine H_seq ?_; try refine H_reg ?_) | refine H_reg ?_)
  try any_goals (first | refine W_move (d := 23) (sq_stepper upC_sep) rfl rfl rfl ?_ | refine W_capO (d := 23) (sq_stepper upC_sep) (by kernel_rfl) rfl rfl rfl ?_)
  try any_goals (first | refine W_move (d := 24) (sq_stepper upC_sep) rfl rfl rfl ?_ | refine W_capO (d := 24) (sq_stepper upC_sep) (by kernel_rfl) rfl rfl rfl ?_)
  try any_goals (first | refine W_lenO (d := 25) (sq_stepper upC_sep) (by kernel_rfl) rfl rfl rfl ?_ | refine W_capO (d := 25) (sq_stepper upC_sep) (by kernel_rfl) rfl rfl rfl ?_)
  try any_goals (first | refine W_assign (d := 6) (sq_stepper upC_sep) rfl rfl rfl ?_ | refine W_capO (d := 6) (sq_stepper upC_sep) (by kernel_rfl) rfl rfl rfl ?_)
  try any_goals (first | (refine Sq_nil ?_; try refine G_then ?_) | refine G_then ?_)
  try any_goals (refine H_ret ?_)
  repeat (any_goals (first | refine G_ret_then ?_ | refine G_ret_block ?_))
  try any_goals (refine G_hold 3 ?_)
  try any_goals (refine Wt.out 2 ?_)
  try any_goals (refine H_skip ?_)
  try any_goals (refine Wt.out 3 ?_)
  try any_goals (refine G_then ?_)
  try any_goals (refine H_seq ?_)
  try any_goals (first | (refine H_seq ?_; try refine H_reg ?_) | refine H_reg ?_)
  try any_goals (first | refine W_move (d := 26) (sq_stepper upC_sep) rfl rfl rfl ?_ | refine W_capO (d := 26) (sq_stepper upC_sep) (by kernel_rfl) rfl rfl rfl ?_)
  try any_goals (first | refine W_move (d := 27) (sq_stepper upC_sep) rfl rfl rfl ?_ | refine W_capO (d := 27) (sq_stepper upC_sep) (by kernel_rfl) rfl rfl rfl ?_)
  try any_goals (first | refine W_ar (d := 28) (sq_stepper upC_sep) rfl rfl rfl rfl rfl (by first | omega | (dsimp only; omega)) ?_ | refine W_capO (d := 28) (sq_stepper upC_sep) (by kernel_rfl) rfl rfl rfl ?_)
  try any_goals (first | refine W_move (d := 29) (sq_stepper upC_sep) rfl rfl rfl ?_ | refine W_capO (d := 29) (sq_stepper upC_sep) (by kernel_rfl) rfl rfl rfl ?_)
  try any_goals (first | refine W_lenO (d := 30) (sq_stepper upC_sep) (by kernel_rfl) rfl rfl rfl ?_ | refine W_capO (d := 30) (sq_stepper upC_sep) (by kernel_rfl) rfl rfl rfl ?_)
  try any_goals (first | refine W_cmp (d := 31) (sq_stepper upC_sep) rfl rfl rfl rfl rfl ?_ | refine W_strcmp (d := 31) (sq_stepper upC_sep) rfl rfl rfl rfl rfl ?_ | refine W_capO (d := 31) (sq_stepper upC_sep) (by kernel_rfl) rfl rfl rfl ?_)
  try any_goals (first | (refine Sq_nil ?_; try refine G_then ?_) | refine G_then ?_)
  try any_goals (first | refine H_condT rfl ?_ | refine H_condF rfl (Wt.un 4 ?_) | (refine H_cond _ rfl (fun hq => ?_) (fun hq => Wt.un 4 ?_) <;> (try simp only [hqs, reduceCtorEq] at hq)))
  try any_goals (first | (refine H_seq ?_; try refine H_reg ?_) | refine H_reg ?_)
  try any_goals (first | refine W_move (d := 32) (sq_stepper upC_sep) rfl rfl rfl ?_ | refine W_capO (d := 32) (sq_stepper upC_sep) (by kernel_rfl) rfl rfl rfl ?_)
  try any_goals (first | refine W_move (d := 33) (sq_stepper upC_sep) rfl rfl rfl ?_ | refine W_capO (d := 33) (sq_stepper upC_sep) (by kernel_rfl) rfl rfl rfl ?_)
  try any_goals (refine W_sliceVTo (d := 34) (sq_stepper upC_sep) (k := 2) (by kernel_rfl) rfl rfl rfl rfl (by omega) ?_)
  try any_goals (first | refine W_move (d := 35) (sq_stepper upC_sep) rfl rfl rfl ?_ | refine W_capO (d := 35) (sq_stepper upC_sep) (by kernel_rfl) rfl rfl rfl ?_)
  try any_goals (first | refine W_move (d := 36) (sq_stepper upC_sep) rfl rfl rfl ?_ | refine W_capO (d := 36) (sq_stepper upC_sep) (by kernel_rfl) rfl rfl rfl ?_)
  try any_goals (first | refine W_ar (d := 37) (sq_stepper upC_sep) rfl rfl rfl rfl rfl (by first | omega | (dsimp only; omega)) ?_ | refine W_capO (d := 37) (sq_stepper upC_sep) (by kernel_rfl) rfl rfl rfl ?_)
  try any_goals (first | refine W_move (d := 38) (sq_stepper upC_sep) rfl rfl rfl ?_ | refine W_capO (d := 38) (sq_stepper upC_sep) (by kernel_rfl) rfl rfl rfl ?_)
  try any_goals (first | refine W_ar (d := 39) (sq_stepper upC_sep) rfl rfl rfl rfl rfl (by first | omega | (dsimp only; omega)) ?_ | refine W_capO (d := 39) (sq_stepper upC_sep) (by kernel_rfl) rfl rfl rfl ?_)
  try any_goals (refine Sq_appZ (d := 40) 0 (k := 2) (kn' := .i64) (n + 1 - i) rfl (by kernel_rfl) rfl (by kernel_rfl) rfl rfl rfl (by omega) hcl ⟨by omega, by omega, by omega, by omega⟩ (fun g c' cs' hc1 hc2 hc3 hc4 => ?_))
  try any_goals (first | refine W_assign (d := 9) (sq_stepper upC_sep) rfl rfl rfl ?_ | refine W_capO (d := 9) (sq_stepper upC_sep) (by kernel_rfl) rfl rfl rfl ?_)
  try any_goals (first | (refine Sq_nil ?_; try refine G_then ?_) | refine G_then ?_)
  try any_goals (first | (refine H_seq ?_; try refine H_reg ?_) | refine H_reg ?_)
  try any_goals (first | refine W_move (d := 41) (sq_stepper upC_sep) rfl rfl rfl ?_ | refine W_capO (d := 41) (sq_stepper upC_sep) (by kernel_rfl) rfl rfl rfl ?_)
  try any_goals (first | refine W_move (d := 42) (sq_stepper upC_sep) rfl rfl rfl ?_ | refine W_capO (d := 42) (sq_stepper upC_sep) (by kernel_rfl) rfl rfl rfl ?_)
  try any_goals (refine W_sliceVFrom (d := 43) (sq_stepper upC_sep) (k := 2) (by kernel_rfl) rfl rfl rfl rfl (by omega) ?_; rw [if_neg (by omega)])
  try any_goals (first | refine W_move (d := 44) (sq_stepper upC_sep) rfl rfl rfl ?_ | refine W_capO (d := 44) (sq_stepper upC_sep) (by kernel_rfl) rfl rfl rfl ?_)
  try any_goals (refine Sq_copyRaw 0 (k := 2) (news := csz.take 2) rfl ⟨trivial, trivial, trivial, hav⟩ (by kernel_rfl) rfl rfl rfl (by rw [hz2]; simp only [Nat.min_def]; split <;> omega) (fun w hw => hzc (hw.raw (m := 2) rfl)) (by rw [hz2]; omega) h2 ?_)
  try any_goals (first | (refine Sq_nil ?_; try refine G_then ?_) | refine G_then ?_)
  try any_goals (refine H_seq ?_)
  try any_goals (refine H_drawT [] [0, 1, 2, 3, 4, 5, 6, 7] [8] (by kernel_rfl) (by kernel_rfl) upC_sep (fun _ _ _ _ _ h => h) ?_)
  try any_goals (refine L_nil ?_)
  try any_goals (first | refine W_move (d := 46) wkH_stepper rfl rfl rfl ?_ | refine W_capO (d := 46) wkH_stepper (by kernel_rfl) rfl rfl rfl ?_)
  try any_goals (first | refine W_move (d := 47) wkH_stepper rfl rfl rfl ?_ | refine W_capO (d := 47) wkH_stepper (by kernel_rfl) rfl rfl rfl ?_)
  try any_goals (first | refine W_move (d := 48) wkH_stepper rfl rfl rfl ?_ | refine W_capO (d := 48) wkH_stepper (by kernel_rfl) rfl rfl rfl ?_)
  try any_goals (first | refine W_ar (d := 49) wkH_stepper rfl rfl rfl rfl rfl (by first | omega | (dsimp only; omega)) ?_ | refine W_capO (d := 49) wkH_stepper (by kernel_rfl) rfl rfl rfl ?_)
  try any_goals (refine W_sliceVFrom (d := 50) wkH_stepper (k := 2) (by kernel_rfl) rfl rfl rfl rfl (by omega) ?_; rw [if_neg (by omega)])
  try any_goals (first | refine W_move (d := 51) wkH_stepper rfl rfl rfl ?_ | refine W_capO (d := 51) wkH_stepper (by kernel_rfl) rfl rfl rfl ?_)
  try any_goals (first | refine W_move (d := 52) wkH_stepper rfl rfl rfl ?_ | refine W_capO (d := 52) wkH_stepper (by kernel_rfl) rfl rfl rfl ?_)
  try any_goals (refine W_sliceVFrom (d := 53) wkH_stepper (k := 2) (by kernel_rfl) rfl rfl rfl rfl (by omega) ?_; rw [if_neg (by omega)])
  try any_goals (refine WkH_nil ?_)
  try any_goals (refine Sq_copyRaw 0 (k := 2) (news := insS cs n i) rfl ⟨trivial, trivial, trivial, hav⟩ (by kernel_rfl) rfl rfl rfl (by rw [hsl]; simp only [Nat.min_def]; split <;> omega) (fun w hw j u hj => insS_cell (hw.raw (m := 1) rfl) j u hj) (by rw [putL_length (by rw [hz2]; omega), hsl]; omega) h1 ?_)
  try any_goals (first | (refine Sq_nil ?_; try refine G_then ?_) | refine G_then ?_)
  try any_goals (first | (refine H_seq ?_; try refine H_reg ?_) | refine H_reg ?_)
  try any_goals (first | refine W_move (d := 55) (sq_stepper upC_sep) rfl rfl rfl ?_ | refine W_capO (d := 55) (sq_stepper upC_sep) (by kernel_rfl) rfl rfl rfl ?_)
  try any_goals (first | refine W_assign (d := 6) (sq_stepper upC_sep) rfl rfl rfl ?_ | refine W_capO (d := 6) (sq_stepper upC_sep) (by kernel_rfl) rfl rfl rfl ?_)
  try any_goals (first | (refine Sq_nil ?_; try refine G_then ?_) | refine G_then ?_)
  try any_goals (refine H_ret ?_)
  repeat (any_goals (first | refine G_ret_then ?_ | refine G_ret_block ?_))
  try any_goals (refine G_hold 5 ?_)
  try any_goals (refine Wt.out 4 ?_)
  try any_goals (refine H_skip ?_)
  try any_goals (refine Wt.out 5 ?_)
  try any_goals (refine G_then ?_)
  try any_goals (first | (refine H_seq ?_; try refine H_reg ?_) | refine H_reg ?_)
  try any_goals (first | refine W_move (d := 56) (sq_stepper upC_sep) rfl rfl rfl ?_ | refine W_capO (d := 56) (sq_stepper upC_sep) (by kernel_rfl) rfl rfl rfl ?_)
  try any_goals (first | refine W_move (d := 57) (sq_stepper upC_sep) rfl rfl rfl ?_ | refine W_capO (d := 57) (sq_stepper upC_sep) (by kernel_rfl) rfl rfl rfl ?_)
  try any_goals (first | refine W_move (d := 58) (sq_stepper upC_sep) rfl rfl rfl ?_ | refine W_capO (d := 58) (sq_stepper upC_sep) (by kernel_rfl) rfl rfl rfl ?_)
  try any_goals (first | refine W_ar (d := 59) (sq_stepper upC_sep) rfl rfl rfl rfl rfl (by first | omega | (dsimp only; omega)) ?_ | refine W_capO (d := 59) (sq_stepper upC_sep) (by kernel_rfl) rfl rfl rfl ?_)
  try any_goals (refine W_sliceVTo (d := 60) (sq_stepper upC_sep) (k := 2) (by kernel_rfl) rfl rfl rfl rfl (by omega) ?_)
  try any_goals (first | refine W_assign (d := 0) (sq_stepper upC_sep) rfl rfl rfl ?_ | refine W_capO (d := 0) (sq_stepper upC_sep) (by kernel_rfl) rfl rfl rfl ?_)
  try any_goals (first | (refine Sq_nil ?_; try refine G_then ?_) | refine G_then ?_)
  try any_goals (refine H_seq ?_)
  try any_goals (first | (refine H_seq ?_; try refine H_reg ?_) | refine H_reg ?_)
  try any_goals (first | refine W_move (d := 61) (sq_stepper upC_sep) rfl rfl rfl ?_ | refine W_capO (d := 61) (sq_stepper upC_sep) (by kernel_rfl) rfl rfl rfl ?_)
  try any_goals (first | refine W_move (d := 62) (sq_stepper upC_sep) rfl rfl rfl ?_ | refine W_capO (d := 62) (sq_stepper upC_sep) (by kernel_rfl) rfl rfl rfl ?_)
  try any_goals (first | refine W_move (d := 63) (sq_stepper upC_sep) rfl rfl rfl ?_ | refine W_capO (d := 63) (sq_stepper upC_sep) (by kernel_rfl) rfl rfl rfl ?_)
  try any_goals (first | refine W_move (d := 64) (sq_stepper upC_sep) rfl rfl rfl ?_ | refine W_capO (d := 64) (sq_stepper upC_sep) (by kernel_rfl) rfl rfl rfl ?_)
  try any_goals (first | refine W_ar (d := 65) (sq_stepper upC_sep) rfl rfl rfl rfl rfl (by first | omega | (dsimp only; omega)) ?_ | refine W_capO (d := 65) (sq_stepper upC_sep) (by kernel_rfl) rfl rfl rfl ?_)
  try any_goals (refine W_sliceVFrom (d := 66) (sq_stepper upC_sep) (k := 2) (by kernel_rfl) rfl rfl rfl rfl (by omega) ?_)
  try any_goals (first | refine W_overlaps (d := 67) (sq_stepper upC_sep) (tS := 80) (tR := 4) (k := 2) Try.func134 (by kernel_rfl) (by kernel_rfl) (by kernel_rfl) (by kernel_rfl) (by kernel_rfl) hne (fun w hC => ⟨_, _, hC.raw (m := 1) rfl⟩) (fun w hC => hcc.elim fun v2 h => h.elim fun cs2 e => ⟨_, v2, cs2, by rw [← e]; exact hC.raw (m := 0) rfl⟩) rfl rfl rfl ?_ | refine W_lenO (d := 67) (sq_stepper upC_sep) (by kernel_rfl) rfl rfl rfl ?_ | refine W_capO (d := 67) (sq_stepper upC_sep) (by kernel_rfl) rfl rfl rfl ?_)
  try any_goals (first | refine W_not (d := 68) (sq_stepper upC_sep) rfl rfl rfl ?_ | refine W_capO (d := 68) (sq_stepper upC_sep) (by kernel_rfl) rfl rfl rfl ?_)
  try any_goals (first | (refine Sq_nil ?_; try refine G_then ?_) | refine G_then ?_)
  try any_goals (first | refine H_condT rfl ?_ | refine H_condF rfl (Wt.un 6 ?_) | (refine H_cond _ rfl (fun hq => ?_) (fun hq => Wt.un 6 ?_) <;> (try simp only [hqs, reduceCtorEq] at hq)))
  try any_goals (refine H_seq ?_)
  try any_goals (refine H_drawT [] [0, 1, 2, 3, 4, 5, 6, 7] [8] (by kernel_rfl) (by kernel_rfl) upC_sep (fun _ _ _ _ _ h => h) ?_)
  try any_goals (refine L_nil ?_)
  try any_goals (first | refine W_move (d := 69) wkH_stepper rfl rfl rfl ?_ | refine W_capO (d := 69) wkH_stepper (by kernel_rfl) rfl rfl rfl ?_)
  try any_goals (first | refine W_move (d := 70) wkH_stepper rfl rfl rfl ?_ | refine W_capO (d := 70) wkH_stepper (by kernel_rfl) rfl rfl rfl ?_)
  try any_goals (first | refine W_move (d := 71) wkH_stepper rfl rfl rfl ?_ | refine W_capO (d := 71) wkH_stepper (by kernel_rfl) rfl rfl rfl ?_)
  try any_goals (first | refine W_ar (d := 72) wkH_stepper rfl rfl rfl rfl rfl (by first | omega | (dsimp only; omega)) ?_ | refine W_capO (d := 72) wkH_stepper (by kernel_rfl) rfl rfl rfl ?_)
  try any_goals (refine W_sliceVFrom (d := 73) wkH_stepper (k := 2) (by kernel_rfl) rfl rfl rfl rfl (by omega) ?_; rw [if_neg (by omega)])
  try any_goals (first | refine W_move (d := 74) wkH_stepper rfl rfl rfl ?_ | refine W_capO (d := 74) wkH_stepper (by kernel_rfl) rfl rfl rfl ?_)
  try any_goals (first | refine W_move (d := 75) wkH_stepper rfl rfl rfl ?_ | refine W_capO (d := 75) wkH_stepper (by kernel_rfl) rfl rfl rfl ?_)
  try any_goals (refine W_sliceVFrom (d := 76) wkH_stepper (k := 2) (by kernel_rfl) rfl rfl rfl rfl (by omega) ?_; rw [if_neg (by omega)])
  try any_goals (refine WkH_nil ?_)
  try any_goals (refine Sq_copyRaw 0 (k := 2) (news := insS cs n i) rfl ⟨trivial, trivial, hav⟩ (by kernel_rfl) rfl rfl rfl (by rw [hsl]; simp only [Nat.min_def]; split <;> omega) (fun w hw j u hj => insS_cell (hw.raw (m := 0) rfl) j u hj) (by rw [hsl]; omega) h1 ?_)
  try any_goals (first | (refine Sq_nil ?_; try refine G_then ?_) | refine G_then ?_)
  try any_goals (first | (refine H_seq ?_; try refine H_reg ?_) | refine H_reg ?_)
  try any_goals (first | refine W_move (d := 78) (sq_stepper upC_sep) rfl rfl rfl ?_ | refine W_capO (d := 78) (sq_stepper upC_sep) (by kernel_rfl) rfl rfl rfl ?_)
  try any_goals (first | refine W_move (d := 79) (sq_stepper upC_sep) rfl rfl rfl ?_ | refine W_capO (d := 79) (sq_stepper upC_sep) (by kernel_rfl) rfl rfl rfl ?_)
  try any_goals (refine W_sliceVFrom (d := 80) (sq_stepper upC_sep) (k := 2) (by kernel_rfl) rfl rfl rfl rfl (by omega) ?_; rw [if_neg (by omega)])
  try any_goals (first | refine W_move (d := 81) (sq_stepper upC_sep) rfl rfl rfl ?_ | refine W_capO (d := 81) (sq_stepper upC_sep) (by kernel_rfl) rfl rfl rfl ?_)
  try any_goals (refine Sq_copyRaw 0 (k := 2) (news := csz.take 2) rfl ⟨trivial, trivial, hav⟩ (by kernel_rfl) rfl rfl rfl (by rw [hz2]; simp only [Nat.min_def]; split <;> omega) (fun w hw => hzc (hw.raw (m := 1) rfl)) (by rw [putL_length (by rw [hsl]; omega), hz2]; omega) h2 ?_)
  try any_goals (first | (refine Sq_nil ?_; try refine G_then ?_) | refine G_then ?_)
  try any_goals (first | (refine H_seq ?_; try refine H_reg ?_) | refine H_reg ?_)
  try any_goals (first | refine W_move (d := 83) (sq_stepper upC_sep) rfl rfl rfl ?_ | refine W_capO (d := 83) (sq_stepper upC_sep) (by kernel_rfl) rfl rfl rfl ?_)
  try any_goals (first | refine W_assign (d := 6) (sq_stepper upC_sep) rfl rfl rfl ?_ | refine W_capO (d := 6) (sq_stepper upC_sep) (by kernel_rfl) rfl rfl rfl ?_)
  try any_goals (first | (refine Sq_nil ?_; try refine G_then ?_) | refine G_then ?_)
  try any_goals (refine H_ret ?_)
  repeat (any_goals (first | refine G_ret_then ?_ | refine G_ret_block ?_))
  try any_goals (refine G_hold 7 ?_)
  try any_goals (refine Wt.out 6 ?_)
  try any_goals (refine H_skip ?_)
  try any_goals (refine Wt.out 7 ?_)
  try any_goals (refine G_then ?_)
  try any_goals (first | (refine H_seq ?_; try refine H_reg ?_) | refine H_reg ?_)
  try any_goals (first | refine W_move (d := 84) (sq_stepper upC_sep) rfl rfl rfl ?_ | refine W_capO (d := 84) (sq_stepper upC_sep) (by kernel_rfl) rfl rfl rfl ?_)
  try any_goals (first | refine W_move (d := 85) (sq_stepper upC_sep) rfl rfl rfl ?_ | refine W_capO (d := 85) (sq_stepper upC_sep) (by kernel_rfl) rfl rfl rfl ?_)
  try any_goals (first | refine W_slice (d := 86) (sq_stepper upC_sep) (by kernel_rfl) rfl rfl rfl rfl rfl (by first | omega | (dsimp only; omega)) ?_ | refine W_capO (d := 86) (sq_stepper upC_sep) (by kernel_rfl) rfl rfl rfl ?_)
  try any_goals (first | refine W_move (d := 87) (sq_stepper upC_sep) rfl rfl rfl ?_ | refine W_capO (d := 87) (sq_stepper upC_sep) (by kernel_rfl) rfl rfl rfl ?_)
  try any_goals (first | refine W_lenO (d := 88) (sq_stepper upC_sep) (by kernel_rfl) rfl rfl rfl ?_ | refine W_capO (d := 88) (sq_stepper upC_sep) (by kernel_rfl) rfl rfl rfl ?_)
  try any_goals (first | (refine Sq_nil ?_; try refine G_then ?_) | refine G_then ?_)
  try any_goals (first | (refine H_seq ?_; try refine H_reg ?_) | refine H_reg ?_)
  try any_goals (first | refine W_move (d := 89) (sq_stepper upC_sep) rfl rfl rfl ?_ | refine W_capO (d := 89) (sq_stepper upC_sep) (by kernel_rfl) rfl rfl rfl ?_)
  try any_goals (first | refine W_move (d := 90) (sq_stepper upC_sep) rfl rfl rfl ?_ | refine W_capO (d := 90) (sq_stepper upC_sep) (by kernel_rfl) rfl rfl rfl ?_)
  try any_goals (first | refine W_slice (d := 91) (sq_stepper upC_sep) (by kernel_rfl) rfl rfl rfl rfl rfl (by first | omega | (dsimp only; omega)) ?_ | refine W_capO (d := 91) (sq_stepper upC_sep) (by kernel_rfl) rfl rfl rfl ?_)
  try any_goals (first | refine W_move (d := 92) (sq_stepper upC_sep) rfl rfl rfl ?_ | refine W_capO (d := 92) (sq_stepper upC_sep) (by kernel_rfl) rfl rfl rfl ?_)
  try any_goals (first | refine W_lenO (d := 93) (sq_stepper upC_sep) (by kernel_rfl) rfl rfl rfl ?_ | refine W_capO (d := 93) (sq_stepper upC_sep) (by kernel_rfl) rfl rfl rfl ?_)
  try any_goals (first | (refine Sq_nil ?_; try refine G_then ?_) | refine G_then ?_)
  try any_goals (first | (refine H_seq ?_; try refine H_reg ?_) | refine H_reg ?_)
  try any_goals (first | refine W_move (d := 94) (sq_stepper upC_sep) rfl rfl rfl ?_ | refine W_capO (d := 94) (sq_stepper upC_sep) (by kernel_rfl) rfl rfl rfl ?_)
  try any_goals (first | refine W_assign (d := 6) (sq_stepper upC_sep) rfl rfl rfl ?_ | refine W_capO (d := 6) (sq_stepper upC_sep) (by kernel_rfl) rfl rfl rfl ?_)
  try any_goals (first | (refine Sq_nil ?_; try refine G_then ?_) | refine G_then ?_)
  try any_goals (refine H_ret ?_)
  repeat (any_goals (first | refine G_ret_then ?_ | refine G_ret_block ?_))
  all_goals first
    | (exfalso; omega)
    | (have hc1' : n + 1 ≤ c' := by omega
       refine RX1 rfl rfl (fun v w h hv => ?_)
       have h3 : Sep w0 (.raw 84 g (putL (putL cs' (i * 2) (csz.take 2)) ((i + 1) * 2) (insS cs n i)) :: .raw 84 b cs :: .raw 84 bz csz :: L) w := h
       refine ⟨(g, c', putL (putL cs' (i * 2) (csz.take 2)) ((i + 1) * 2) (insS cs n i)), ⟨h3.drop1.drop1, ⟨hc1', hc2⟩, ?_, insG_ok hcl hnc (by omega) hz2 hc3 hc1' hc4⟩, ?_⟩
       · show (putL (putL cs' (i * 2) (csz.take 2)) ((i + 1) * 2) (insS cs n i)).length = c' * 2
         rw [putL_length (by rw [putL_length (by rw [hz2]; omega), hsl]; omega), putL_length (by rw [hz2]; omega)]
         exact hc3
       · have hv' : v = .slice (some ⟨g, 0, none⟩) ((i : Int).toNat + (n + 1 - i)) c' := hv
         rw [show (i : Int).toNat + (n + 1 - i) = n + 1 by omega] at hv'
         exact hv')
    | (refine RX1 rfl rfl (fun v w h hv => ?_)
       have h3 : Sep w0 (.raw 84 b (putL (putL cs ((i + 1) * 2) (insS cs n i)) (i * 2) (csz.take 2)) :: .raw 84 bz csz :: L) w := h
       refine ⟨(b, c, putL (putL cs ((i + 1) * 2) (insS cs n i)) (i * 2) (csz.take 2)), ⟨h3.drop1, ⟨by show n + 1 ≤ c; omega, hcm⟩, ?_, insR_ok hcl (by omega) (by omega) hz2⟩, hv⟩
       show (putL (putL cs ((i + 1) * 2) (insS cs n i)) (i * 2) (csz.take 2)).length = c * 2
       rw [putL_length (by rw [putL_length (by rw [hsl]; omega), hz2]; omega), putL_length (by rw [hsl]; omega)]
       exact hcl)
    | trace_state
theorem cx_InsDe {w0 : World} {L : List Osl} {xs : List Dly} {z : Dly} {p pz : Option Addr} {c cz : Nat} (hav : avAll L 84) (hn : xs.length ≤ 1048576) :
    CTX Try.prog 95 (Sep w0 (.sl Dly 84 pDly [z] (.slice pz 1 cz) :: .sl Dly 84 pDly xs (.slice p xs.length c) :: L)) [.inl (.slice p xs.length c), .inl (.int .i64 (xs.length : Int)), .inl (.slice pz 1 cz)] (σ := Value) (fun v' => Sep w0 (.sl Dly 84 pDly (xs ++ [z]) v' :: L)) (fun v' => .inl v') := by
  refine CTX_of Try.func95 rfl rfl rfl ?_
  try any_goals (first | (refine H_seq ?_; try refine H_reg ?_) | refine H_reg ?_)
  try any_goals (refine W_assign (d := 6) (sq_stepper upC_sep) rfl rfl rfl ?_)
  try any_goals (first | (refine Sq_nil ?_; try refine G_then ?_) | refine G_then ?_)
  try any_goals (first | (refine H_seq ?_; try refine H_reg ?_) | refine H_reg ?_)
  try any_goals (refine W_move (d := 10) (sq_stepper upC_sep) rfl rfl rfl ?_)
  try any_goals (refine W_move (d := 11) (sq_stepper upC_sep) rfl rfl rfl ?_)
  try any_goals (refine W_sliceVF (d := 12) (sq_stepper upC_sep) (k := 2) (by kernel_rfl) rfl rfl rfl rfl (by omega) ?_)
  try any_goals (first | (refine Sq_nil ?_; try refine G_then ?_) | refine G_then ?_)
  try any_goals (first | (refine H_seq ?_; try refine H_reg ?_) | refine H_reg ?_)
  try any_goals (refine W_move (d := 13) (sq_stepper upC_sep) rfl rfl rfl ?_)
  try any_goals (first | refine W_len (d := 14) (sq_stepper upC_sep) (by kernel_rfl) rfl rfl rfl ?_ | refine W_lenStr (d := 14) (sq_stepper upC_sep) (by kernel_rfl) rfl rfl rfl ?_ | refine W_lenO (d := 14) (sq_stepper upC_sep) (by kernel_rfl) rfl rfl rfl ?_)
  try any_goals (refine W_assign (d := 7) (sq_stepper upC_sep) rfl rfl rfl ?_)
  try any_goals (first | (refine Sq_nil ?_; try refine G_then ?_) | refine G_then ?_)
  try any_goals (refine H_seq ?_)
  try any_goals (first | (refine H_seq ?_; try refine H_reg ?_) | refine H_reg ?_)
  try any_goals (refine W_move (d := 15) (sq_stepper upC_sep) rfl rfl rfl ?_)
  try any_goals (first | refine W_cmp (d := 16) (sq_stepper upC_sep) rfl rfl rfl rfl rfl ?_ | refine W_eqlStr (d := 16) (sq_stepper upC_sep) rfl rfl rfl rfl ?_ | refine W_eqlB (d := 16) (sq_stepper upC_sep) rfl rfl Try.underlying4 rfl rfl ?_)
  try any_goals (first | (refine Sq_nil ?_; try refine G_then ?_) | refine G_then ?_)
  try any_goals (first | refine H_condT rfl ?_ | refine H_condF rfl (Wt.un 0 ?_) | (refine H_cond _ rfl (fun hq => ?_) (fun hq => Wt.un 0 ?_) <;> (try simp only [hqs, reduceCtorEq] at hq)))
  try any_goals (first | ((exfalso; omega)) | skip)
  try any_goals (first | (refine H_seq ?_; try refine H_reg ?_) | refine H_reg ?_)
  try any_goals (refine W_move (d := 17) (sq_stepper upC_sep) rfl rfl rfl ?_)
  try any_goals (refine W_assign (d := 6) (sq_stepper upC_sep) rfl rfl rfl ?_)
  try any_goals (first | (refine Sq_nil ?_; try refine G_then ?_) | refine G_then ?_)
  try any_goals (refine H_ret ?_)
  repeat (any_goals (first | refine G_ret_then ?_ | refine G_ret_block ?_))
  try any_goals (refine G_hold 1 ?_)
  try any_goals (refine Wt.out 0 ?_)
  try any_goals (refine H_skip ?_)
  try any_goals (refine Wt.out 1 ?_)
  try any_goals (refine G_then ?_)
  try any_goals (first | (refine H_seq ?_; try refine H_reg ?_) | refine H_reg ?_)
  try any_goals (refine W_move (d := 18) (sq_stepper upC_sep) rfl rfl rfl ?_)
  try any_goals (first | refine W_len (d := 19) (sq_stepper upC_sep) (by kernel_rfl) rfl rfl rfl ?_ | refine W_lenStr (d := 19) (sq_stepper upC_sep) (by kernel_rfl) rfl rfl rfl ?_ | refine W_lenO (d := 19) (sq_stepper upC_sep) (by kernel_rfl) rfl rfl rfl ?_)
  try any_goals (refine W_assign (d := 8) (sq_stepper upC_sep) rfl rfl rfl ?_)
  try any_goals (first | (refine Sq_nil ?_; try refine G_then ?_) | refine G_then ?_)
  try any_goals (refine H_seq ?_)
  try any_goals (first | (refine H_seq ?_; try refine H_reg ?_) | refine H_reg ?_)
  try any_goals (refine W_move (d := 20) (sq_stepper upC_sep) rfl rfl rfl ?_)
  try any_goals (refine W_move (d := 21) (sq_stepper upC_sep) rfl rfl rfl ?_)
  try any_goals (first | refine W_cmp (d := 22) (sq_stepper upC_sep) rfl rfl rfl rfl rfl ?_ | refine W_eqlStr (d := 22) (sq_stepper upC_sep) rfl rfl rfl rfl ?_ | refine W_eqlB (d := 22) (sq_stepper upC_sep) rfl rfl Try.underlying4 rfl rfl ?_)
  try any_goals (first | (refine Sq_nil ?_; try refine G_then ?_) | refine G_then ?_)
  try any_goals (first | refine H_condT rfl ?_ | refine H_condF rfl (Wt.un 2 ?_) | (refine H_cond _ rfl (fun hq => ?_) (fun hq => Wt.un 2 ?_) <;> (try simp only [hqs, reduceCtorEq] at hq)))
  try any_goals (first | ((exfalso; omega)) | skip)
  try any_goals (first | (refine H_seq ?_; try refine H_reg ?_) | refine H_reg ?_)
  try any_goals (refine W_move (d := 23) (sq_stepper upC_sep) rfl rfl rfl ?_)
  try any_goals (refine W_move (d := 24) (sq_stepper upC_sep) rfl rfl rfl ?_)
  try any_goals (refine Sq_recall 24 (U := uS (some 84) pDly [z]) (fun w' h => Sep.isS (m := 0) h rfl) rfl ?_; refine Sq_appS (d := 25) 1 (Ψ := pDly) rfl ⟨⟨trivial, trivial, trivial⟩, ⟨trivial, trivial, trivial⟩, hav⟩ (by kernel_rfl) (by kernel_rfl) rfl rfl rfl ⟨by simp only [List.length_cons, List.length_nil]; omega, by simp⟩ (fun va => ?_))
  try any_goals (refine W_assign (d := 6) (sq_stepper upC_sep) rfl rfl rfl ?_)
  try any_goals (first | (refine Sq_nil ?_; try refine G_then ?_) | refine G_then ?_)
  try any_goals (refine H_ret ?_)
  repeat (any_goals (first | refine G_ret_then ?_ | refine G_ret_block ?_))
  try any_goals (refine G_hold 3 ?_)
  try any_goals (refine Wt.out 2 ?_)
  try any_goals (refine H_skip ?_)
  try any_goals (refine Wt.out 3 ?_)
  try any_goals (refine G_then ?_)
  try any_goals (refine H_seq ?_)
  try any_goals (first | (refine H_seq ?_; try refine H_reg ?_) | refine H_reg ?_)
  try any_goals (refine W_move (d := 26) (sq_stepper upC_sep) rfl rfl rfl ?_)
  try any_goals (refine W_move (d := 27) (sq_stepper upC_sep) rfl rfl rfl ?_)
  try any_goals (refine W_ar (d := 28) (sq_stepper upC_sep) rfl rfl rfl rfl rfl (by first | omega | (dsimp only; omega)) ?_)
  try any_goals (refine W_move (d := 29) (sq_stepper upC_sep) rfl rfl rfl ?_)
  try any_goals (refine W_lenO (d := 30) (sq_stepper upC_sep) (by kernel_rfl) rfl rfl rfl ?_)
  try any_goals (first | refine W_cmp (d := 31) (sq_stepper upC_sep) rfl rfl rfl rfl rfl ?_ | refine W_strcmp (d := 31) (sq_stepper upC_sep) rfl rfl rfl rfl rfl ?_)
  try any_goals (first | (refine Sq_nil ?_; try refine G_then ?_) | refine G_then ?_)
  try any_goals (first | refine H_condT rfl ?_ | refine H_condF rfl (Wt.un 4 ?_) | (refine H_cond _ rfl (fun hq => ?_) (fun hq => Wt.un 4 ?_) <;> (try simp only [hqs, reduceCtorEq] at hq)))
  try any_goals (first | ((exfalso; omega)) | skip)
  try any_goals (first | (refine H_seq ?_; try refine H_reg ?_) | refine H_reg ?_)
  try any_goals (refine W_move (d := 32) (sq_stepper upC_sep) rfl rfl rfl ?_)
  try any_goals (refine W_move (d := 33) (sq_stepper upC_sep) rfl rfl rfl ?_)
  try any_goals (refine W_slice (d := 34) (sq_stepper upC_sep) (by kernel_rfl) rfl rfl rfl rfl rfl (by first | omega | (dsimp only; omega)) ?_)
  try any_goals (refine W_move (d := 35) (sq_stepper upC_sep) rfl rfl rfl ?_)
  try any_goals (refine W_move (d := 36) (sq_stepper upC_sep) rfl rfl rfl ?_)
  try any_goals (refine W_ar (d := 37) (sq_stepper upC_sep) rfl rfl rfl rfl rfl (by first | omega | (dsimp only; omega)) ?_)
  try any_goals (refine W_move (d := 38) (sq_stepper upC_sep) rfl rfl rfl ?_)
  try any_goals (refine W_ar (d := 39) (sq_stepper upC_sep) rfl rfl rfl rfl rfl (by first | omega | (dsimp only; omega)) ?_)
  try any_goals (refine W_lenO (d := 40) (sq_stepper upC_sep) (by kernel_rfl) rfl rfl rfl ?_)
  try any_goals (refine W_assign (d := 9) (sq_stepper upC_sep) rfl rfl rfl ?_)
  try any_goals (first | (refine Sq_nil ?_; try refine G_then ?_) | refine G_then ?_)
  try any_goals (first | (refine H_seq ?_; try refine H_reg ?_) | refine H_reg ?_)
  try any_goals (refine W_move (d := 41) (sq_stepper upC_sep) rfl rfl rfl ?_)
  try any_goals (refine W_move (d := 42) (sq_stepper upC_sep) rfl rfl rfl ?_)
  try any_goals (refine W_slice (d := 43) (sq_stepper upC_sep) (by kernel_rfl) rfl rfl rfl rfl rfl (by first | omega | (dsimp only; omega)) ?_)
  try any_goals (refine W_move (d := 44) (sq_stepper upC_sep) rfl rfl rfl ?_)
  try any_goals (refine W_lenO (d := 45) (sq_stepper upC_sep) (by kernel_rfl) rfl rfl rfl ?_)
  try any_goals (first | (refine Sq_nil ?_; try refine G_then ?_) | refine G_then ?_)
  try any_goals (refine H_seq ?_)
  try any_goals (refine H_draw' (by kernel_rfl) upC_sep ?_)
  try any_goals (refine W_move (d := 46) wk_stepper rfl rfl rfl ?_)
  try any_goals (refine W_move (d := 47) wk_stepper rfl rfl rfl ?_)
  try any_goals (refine W_move (d := 48) wk_stepper rfl rfl rfl ?_)
  try any_goals (refine W_ar (d := 49) wk_stepper rfl rfl rfl rfl rfl (by first | omega | (dsimp only; omega)) ?_)
  try any_goals (refine W_slice (d := 50) wk_stepper (by kernel_rfl) rfl rfl rfl rfl rfl (by first | omega | (dsimp only; omega)) ?_)
  try any_goals (refine W_move (d := 51) wk_stepper rfl rfl rfl ?_)
  try any_goals (refine W_move (d := 52) wk_stepper rfl rfl rfl ?_)
  try any_goals (refine W_slice (d := 53) wk_stepper (by kernel_rfl) rfl rfl rfl rfl rfl (by first | omega | (dsimp only; omega)) ?_)
  try any_goals (refine W_lenO (d := 54) wk_stepper (by kernel_rfl) rfl rfl rfl ?_)
  try any_goals (refine Wk_end (by kernel_rfl) (by kernel_rfl) ?_)
  try any_goals (refine G_then ?_)
  try any_goals (first | (refine H_seq ?_; try refine H_reg ?_) | refine H_reg ?_)
  try any_goals (refine W_move (d := 55) (sq_stepper upC_sep) rfl rfl rfl ?_)
  try any_goals (refine W_assign (d := 6) (sq_stepper upC_sep) rfl rfl rfl ?_)
  try any_goals (first | (refine Sq_nil ?_; try refine G_then ?_) | refine G_then ?_)
  try any_goals (refine H_ret ?_)
  repeat (any_goals (first | refine G_ret_then ?_ | refine G_ret_block ?_))
  try any_goals (refine G_hold 5 ?_)
  try any_goals (refine Wt.out 4 ?_)
  try any_goals (refine H_skip ?_)
  try any_goals (refine Wt.out 5 ?_)
  try any_goals (refine G_then ?_)
  try any_goals (first | (refine H_seq ?_; try refine H_reg ?_) | refine H_reg ?_)
  try any_goals (refine W_move (d := 56) (sq_stepper upC_sep) rfl rfl rfl ?_)
  try any_goals (refine W_move (d := 57) (sq_stepper upC_sep) rfl rfl rfl ?_)
  try any_goals (refine W_move (d := 58) (sq_stepper upC_sep) rfl rfl rfl ?_)
  try any_goals (refine W_ar (d := 59) (sq_stepper upC_sep) rfl rfl rfl rfl rfl (by first | omega | (dsimp only; omega)) ?_)
  try any_goals (refine W_slice (d := 60) (sq_stepper upC_sep) (by kernel_rfl) rfl rfl rfl rfl rfl (by first | omega | (dsimp only; omega)) ?_)
  try any_goals (refine W_assign (d := 0) (sq_stepper upC_sep) rfl rfl rfl ?_)
  try any_goals (first | (refine Sq_nil ?_; try refine G_then ?_) | refine G_then ?_)
  try any_goals (refine H_seq ?_)
  try any_goals (first | (refine H_seq ?_; try refine H_reg ?_) | refine H_reg ?_)
  try any_goals (refine W_move (d := 61) (sq_stepper upC_sep) rfl rfl rfl ?_)
  try any_goals (refine W_move (d := 62) (sq_stepper upC_sep) rfl rfl rfl ?_)
  try any_goals (refine W_move (d := 63) (sq_stepper upC_sep) rfl rfl rfl ?_)
  try any_goals (refine W_move (d := 64) (sq_stepper upC_sep) rfl rfl rfl ?_)
  try any_goals (refine W_ar (d := 65) (sq_stepper upC_sep) rfl rfl rfl rfl rfl (by first | omega | (dsimp only; omega)) ?_)
  try any_goals (refine W_slice (d := 66) (sq_stepper upC_sep) (by kernel_rfl) rfl rfl rfl rfl rfl (by first | omega | (dsimp only; omega)) ?_)
  try any_goals (refine W_lenO (d := 67) (sq_stepper upC_sep) (by kernel_rfl) rfl rfl rfl ?_)
  try any_goals (refine W_not (d := 68) (sq_stepper upC_sep) rfl rfl rfl ?_)
  try any_goals (first | (refine Sq_nil ?_; try refine G_then ?_) | refine G_then ?_)
  try any_goals (first | refine H_condT rfl ?_ | refine H_condF rfl (Wt.un 6 ?_) | (refine H_cond _ rfl (fun hq => ?_) (fun hq => Wt.un 6 ?_) <;> (try simp only [hqs, reduceCtorEq] at hq)))
  try any_goals (first | ((exfalso; omega)) | skip)
  try any_goals (refine H_seq ?_)
  try any_goals (refine H_draw' (by kernel_rfl) upC_sep ?_)
  try any_goals (refine W_move (d := 69) wk_stepper rfl rfl rfl ?_)
  try any_goals (refine W_move (d := 70) wk_stepper rfl rfl rfl ?_)
  try any_goals (refine W_move (d := 71) wk_stepper rfl rfl rfl ?_)
  try any_goals (refine W_ar (d := 72) wk_stepper rfl rfl rfl rfl rfl (by first | omega | (dsimp only; omega)) ?_)
  try any_goals (refine W_slice (d := 73) wk_stepper (by kernel_rfl) rfl rfl rfl rfl rfl (by first | omega | (dsimp only; omega)) ?_)
  try any_goals (refine W_move (d := 74) wk_stepper rfl rfl rfl ?_)
  try any_goals (refine W_move (d := 75) wk_stepper rfl rfl rfl ?_)
  try any_goals (refine W_slice (d := 76) wk_stepper (by kernel_rfl) rfl rfl rfl rfl rfl (by first | omega | (dsimp only; omega)) ?_)
  try any_goals (refine W_lenO (d := 77) wk_stepper (by kernel_rfl) rfl rfl rfl ?_)
  try any_goals (refine Wk_end (by kernel_rfl) (by kernel_rfl) ?_)
  try any_goals (refine G_then ?_)
  try any_goals (first | (refine H_seq ?_; try refine H_reg ?_) | refine H_reg ?_)
  try any_goals (refine W_move (d := 78) (sq_stepper upC_sep) rfl rfl rfl ?_)
  try any_goals (refine W_move (d := 79) (sq_stepper upC_sep) rfl rfl rfl ?_)
  try any_goals (refine W_slice (d := 80) (sq_stepper upC_sep) (by kernel_rfl) rfl rfl rfl rfl rfl (by first | omega | (dsimp only; omega)) ?_)
  try any_goals (refine W_move (d := 81) (sq_stepper upC_sep) rfl rfl rfl ?_)
  try any_goals (refine W_lenO (d := 82) (sq_stepper upC_sep) (by kernel_rfl) rfl rfl rfl ?_)
  try any_goals (first | (refine Sq_nil ?_; try refine G_then ?_) | refine G_then ?_)
  try any_goals (first | (refine H_seq ?_; try refine H_reg ?_) | refine H_reg ?_)
  try any_goals (refine W_move (d := 83) (sq_stepper upC_sep) rfl rfl rfl ?_)
  try any_goals (refine W_assign (d := 6) (sq_stepper upC_sep) rfl rfl rfl ?_)
  try any_goals (first | (refine Sq_nil ?_; try refine G_then ?_) | refine G_then ?_)
  try any_goals (refine H_ret ?_)
  repeat (any_goals (first | refine G_ret_then ?_ | refine G_ret_block ?_))
  try any_goals (refine G_hold 7 ?_)
  try any_goals (refine Wt.out 6 ?_)
  try any_goals (refine H_skip ?_)
  try any_goals (refine Wt.out 7 ?_)
  try any_goals (refine G_then ?_)
  try any_goals (first | (refine H_seq ?_; try refine H_reg ?_) | refine H_reg ?_)
  try any_goals (refine W_move (d := 84) (sq_stepper upC_sep) rfl rfl rfl ?_)
  try any_goals (refine W_move (d := 85) (sq_stepper upC_sep) rfl rfl rfl ?_)
  try any_goals (refine W_slice (d := 86) (sq_stepper upC_sep) (by kernel_rfl) rfl rfl rfl rfl rfl (by first | omega | (dsimp only; omega)) ?_)
  try any_goals (refine W_move (d := 87) (sq_stepper upC_sep) rfl rfl rfl ?_)
  try any_goals (refine W_lenO (d := 88) (sq_stepper upC_sep) (by kernel_rfl) rfl rfl rfl ?_)
  try any_goals (first | (refine Sq_nil ?_; try refine G_then ?_) | refine G_then ?_)
  try any_goals (first | (refine H_seq ?_; try refine H_reg ?_) | refine H_reg ?_)
  try any_goals (refine W_move (d := 89) (sq_stepper upC_sep) rfl rfl rfl ?_)
  try any_goals (refine W_move (d := 90) (sq_stepper upC_sep) rfl rfl rfl ?_)
  try any_goals (refine W_slice (d := 91) (sq_stepper upC_sep) (by kernel_rfl) rfl rfl rfl rfl rfl (by first | omega | (dsimp only; omega)) ?_)
  try any_goals (refine W_move (d := 92) (sq_stepper upC_sep) rfl rfl rfl ?_)
  try any_goals (refine W_lenO (d := 93) (sq_stepper upC_sep) (by kernel_rfl) rfl rfl rfl ?_)
  try any_goals (first | (refine Sq_nil ?_; try refine G_then ?_) | refine G_then ?_)
  try any_goals (first | (refine H_seq ?_; try refine H_reg ?_) | refine H_reg ?_)
  try any_goals (refine W_move (d := 94) (sq_stepper upC_sep) rfl rfl rfl ?_)
  try any_goals (refine W_assign (d := 6) (sq_stepper upC_sep) rfl rfl rfl ?_)
  try any_goals (first | (refine Sq_nil ?_; try refine G_then ?_) | refine G_then ?_)
  try any_goals (refine H_ret ?_)
  repeat (any_goals (first | refine G_ret_then ?_ | refine G_ret_block ?_))
  all_goals first
    | exact RX1 rfl rfl (fun v w h hv => ⟨va, Sep.drop h, hv⟩)
    | (exfalso; omega)
    | trace_state
theorem cx_InsD {w0 : World} {L : List Osl} {xs : List Dly} {z : Dly} {v vz : Value} (i : Nat) (hav : avAll L 84) (hi : i ≤ xs.length) (hn : xs.length ≤ 1048576) :
    CTX Try.prog 95 (Sep w0 (.sl Dly 84 pDly [z] vz :: .sl Dly 84 pDly xs v :: L)) [.inl v, .inl (.int .i64 (i : Int)), .inl vz] (σ := Value) (fun v' => Sep w0 (.sl Dly 84 pDly (xs.take i ++ z :: xs.drop i) v' :: L)) (fun v' => .inl v') := by
  intro w vs hS hok
  by_cases he : i = xs.length
  · subst he
    obtain ⟨A, c, cs, ⟨p, hv, hp⟩, _⟩ := hS.get (m := 1) rfl
    obtain ⟨Az, cz, csz, ⟨pz, hvz, hpz⟩, _⟩ := hS.get (m := 0) rfl
    subst hv
    subst hvz
    rw [List.take_length, List.drop_length]
    exact cx_InsDe hav hn w vs hS hok
  · obtain ⟨b, c, cs, hv, h3, h4, h5, h7, hS1⟩ := hS.toRaw (m := 1) rfl (by omega)
    obtain ⟨bz, cz, csz, hvz, hz3, hz4, hz5, hz7, hS2⟩ := hS1.toRaw (m := 0) rfl (by simp)
    subst hv
    subst hvz
    have hS3 : Sep w0 (.raw 84 bz csz :: .raw 84 b cs :: L) w := hS2
    have hS4 : Sep w0 (.raw 84 b cs :: .raw 84 bz csz :: L) w := hS3.perm (List.Perm.swap _ _ _)
    have h5' : cs.length = c * 2 := h5
    have hz5' : csz.length = cz * 2 := hz5
    have hz3' : 1 ≤ cz := hz3
    have hone : ∀ u ∈ insS cs xs.length i, u.oneCell' = true := fun u hu => by
      obtain ⟨r, hr, e⟩ := List.mem_iff_getElem.1 hu
      have hr' := hr
      rw [insS_len h5' h3 hi] at hr'
      have hg := insS_get (cs := cs) (n := xs.length) (i := i) hr'
      rw [List.getElem?_eq_getElem hr, e] at hg
      have hj : i + r / 2 < xs.length := by omega
      have hl := lsD_get h7 (List.getElem?_eq_getElem hj)
      rcases (show r % 2 = 0 ∨ r % 2 = 1 by omega) with h0 | h0
      · rw [show i * 2 + r = (i + r / 2) * 2 by omega, hl.1] at hg
        injection hg with hg
        rw [hg]; rfl
      · rw [show i * 2 + r = (i + r / 2) * 2 + 1 by omega, hl.2] at hg
        injection hg with hg
        rw [hg]; rfl
    have hzone : ∀ u ∈ csz.take 2, u.oneCell' = true := fun u hu => by
      obtain ⟨r, hr, e⟩ := List.mem_iff_getElem.1 hu
      have hr2 : r < 2 := by rw [List.length_take] at hr; omega
      have hg : csz[r]? = some u := by
        rw [← e, List.getElem_take]
        exact List.getElem?_eq_getElem _
      have hl := lsD_get hz7 (j := 0) rfl
      rcases (show r = 0 ∨ r = 1 by omega) with rfl | rfl
      · rw [hl.1] at hg
        injection hg with hg
        rw [← hg]; rfl
      · rw [hl.2] at hg
        injection hg with hg
        rw [← hg]; rfl
    have hz8 : LS pDly [z] (csz.take 2) w := lsD_mk fun j y hy => by
      have hl := lsD_get hz7 hy
      have hj := (List.getElem?_eq_some_iff.1 hy).1
      simp only [List.length_cons, List.length_nil] at hj
      exact ⟨by rw [List.getElem?_take, if_pos (by omega)]; exact hl.1, by rw [List.getElem?_take, if_pos (by omega)]; exact hl.2⟩
    refine (cx_InsD0 (L := L) xs.length i hav (by omega) h3 h4 h5' hz5' hz3' hone hzone hn hS4.ne01 w vs hS4 hok).mono fun en w' ⟨v, he', y, ⟨hC, ⟨hc1, hc2⟩, hlen, hins⟩, hR⟩ => ⟨v, he', v, ?_, rfl⟩
    obtain rfl : v = _ := hR
    have hln : (xs.take i ++ z :: xs.drop i).length = xs.length + 1 := by simp; omega
    have h8 := hC.ofRaw (m := 0) (c := y.2.1) (α := Dly) (Ψ := pDly) (xs := xs.take i ++ z :: xs.drop i) rfl (by rw [hln]; exact hc1) hc2 hlen (fun w1 _ => hins.ls hi h7 hz8)
    rw [hln] at h8
    exact h8
end Go.Proofs.Ytikijhclakccpaa

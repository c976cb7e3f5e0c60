/- A run that is cancelled: slices.Delete and the program's side. -/
import Derived.Test.YtikijhclakccpaaCanc
import Derived.Test.YtikijhclakccpaaDlt
namespace Go.Proofs.Ytikijhclakccpaa
set_option linter.unusedSimpArgs false
set_option linter.unusedVariables false
open Go.RowKit Go.ChangeShapes Go.WideShapes Go.ChangeAt Go.Deep
/-- The cells after the place i was deleted. -/
def delO (n c : Nat) (i : Int) : Nat := if c = (i + 1).toNat then 0 else (i + 1).toNat * 4
def delS (cs : List Value) (n c : Nat) (i : Int) : List Value := (cs.drop (delO n c i)).take ((n - (i + 1).toNat) * 4)
def delX (cs : List Value) (n c : Nat) (i : Int) : List Value := putL cs (i.toNat * 4) (delS cs n c i)
def zero4 : List Value := [.int .i64 0, .int .i64 0, .int .i64 0, .int .i64 0]
def delC (cs : List Value) (n c : Nat) (i : Int) : List Value := putL (delX cs n c i) ((n - 1) * 4) zero4
theorem delS_get {cs : List Value} {n c : Nat} {i : Int} (hnc : n ≤ c) {r : Nat} (hr : r < (n - (i + 1).toNat) * 4) : (delS cs n c i)[r]? = cs[(i + 1).toNat * 4 + r]? := by
  have e : delO n c i = (i + 1).toNat * 4 := by
    unfold delO
    rw [if_neg (by omega)]
  rw [delS, List.getElem?_take, if_pos hr, List.getElem?_drop, e]
section
variable {cs : List Value} {n c : Nat} {i : Int} (hcl : cs.length = c * 4) (hnc : n ≤ c) (hi : 0 ≤ i ∧ i < (n : Int))
include hcl hnc hi
theorem delO_le : delO n c i + (n - (i + 1).toNat) * 4 ≤ cs.length := by
  unfold delO
  split <;> omega
theorem delS_len : (delS cs n c i).length = (n - (i + 1).toNat) * 4 := by
  have := delO_le hcl hnc hi
  rw [delS, List.length_take, List.length_drop]
  omega
theorem delX_len : (delX cs n c i).length = cs.length := putL_length (by rw [delS_len hcl hnc hi]; omega)
theorem delC_len : (delC cs n c i).length = cs.length := by
  rw [delC, putL_length (by rw [delX_len hcl hnc hi]; simp only [zero4, List.length_cons, List.length_nil]; omega), delX_len hcl hnc hi]
theorem delC_get {j q : Nat} (hj : j + 1 < n) (hq : q < 4) : (delC cs n c i)[j * 4 + q]? = cs[(if j < i.toNat then j else j + 1) * 4 + q]? := by
  rw [delC, putL_out (by rw [delX_len hcl hnc hi]; simp only [zero4, List.length_cons, List.length_nil]; omega) (.inl (by omega)), delX]
  have hsl := delS_len hcl hnc hi
  split
  · rw [putL_out (by rw [hsl]; omega) (.inl (by omega))]
  · have e : j * 4 + q = i.toNat * 4 + ((j - i.toNat) * 4 + q) := by omega
    have hr : (j - i.toNat) * 4 + q < (n - (i + 1).toNat) * 4 := by omega
    have hu : (delS cs n c i)[(j - i.toNat) * 4 + q]? = some ((delS cs n c i)[(j - i.toNat) * 4 + q]'(by rw [hsl]; exact hr)) := List.getElem?_eq_getElem _
    rw [e, putL_in (by rw [hsl]; omega) hu, ← hu, delS_get hnc hr]
    congr 1
    omega
end
theorem delC_ls {cs : List Value} {c : Nat} {i : Int} {xs : List Rn} {w w' : World} (hcl : cs.length = c * 4) (hnc : xs.length ≤ c) (hi : 0 ≤ i ∧ i < (xs.length : Int)) (h : LS pRn xs cs w) : LS pRn (cnX xs i) (delC cs xs.length c i) w' := by
  intro j z hz
  have hk : pRn.k = 4 := rfl
  have hjn : j + 1 < xs.length := by
    have h1 := (List.getElem?_eq_some_iff.1 hz).1
    rw [cnX, List.length_append, List.length_take, List.length_drop] at h1
    omega
  have hx : xs[if j < i.toNat then j else j + 1]? = some z := by
    rw [cnX] at hz
    split
    · rw [List.getElem?_append_left (by rw [List.length_take]; omega), List.getElem?_take, if_pos (by assumption)] at hz
      exact hz
    · rw [List.getElem?_append_right (by rw [List.length_take]; omega), List.length_take, List.getElem?_drop] at hz
      rw [← hz]
      congr 1
      omega
  have h2 := h _ z hx
  rw [hk] at h2 ⊢
  have e : ((delC cs xs.length c i).drop (j * 4)).take 4 = (cs.drop ((if j < i.toNat then j else j + 1) * 4)).take 4 := by
    apply List.ext_getElem?
    intro q
    rw [List.getElem?_take, List.getElem?_take]
    split
    · rename_i hq
      rw [List.getElem?_drop, List.getElem?_drop, delC_get hcl hnc hi hjn hq]
    · rfl
  rw [e]
  exact flR _ _ _ _ h2
theorem ls_one {cs : List Value} {c : Nat} {xs : List Rn} {w : World} (hcl : cs.length = c * 4) (hnc : xs.length ≤ c) (h : LS pRn xs cs w) : ∀ u ∈ cs.take (xs.length * 4), u.oneCell' = true := by
  intro u hu
  obtain ⟨r, hr, e⟩ := List.mem_iff_getElem.1 hu
  rw [List.length_take] at hr
  have hj : r / 4 < xs.length := by omega
  have h1 := h (r / 4) _ (List.getElem?_eq_getElem hj)
  refine pRn.one _ _ _ h1 u ?_
  rw [show pRn.k = 4 from rfl]
  refine List.mem_of_getElem? (i := r % 4) ?_
  rw [List.getElem?_take, if_pos (by omega), List.getElem?_drop, show r / 4 * 4 + r % 4 = r by omega, ← e, List.getElem_take]
  exact List.getElem?_eq_getElem (by omega)
theorem cx_DelR0 {w0 : World} {L : List Osl} (m : Nat) {b c : Nat} {cs : List Value} (n : Nat) (i : Int) (hm : L[m]? = some (.raw 108 b cs)) (hav : avAll L 108) (hi : 0 ≤ i ∧ i < (n : Int)) (hnc : n ≤ c) (hcm : c ≤ maxLen) (hcl : cs.length = c * 4) (h1 : ∀ u ∈ cs.take (n * 4), u.oneCell' = true) :
    CTX Try.prog 76 (Sep w0 L) [.inl (.slice (some ⟨b, 0, none⟩) n c), .inl (.int .i64 i), .inl (.int .i64 (i + 1))] (σ := Unit) (fun _ => Sep w0 (L.set m (.raw 108 b (delC cs n c i)))) (fun _ => .inl (.slice (some ⟨b, 0, none⟩) (n - 1) c)) := by
  have hml : m < L.length := (List.getElem?_eq_some_iff.1 hm).1
  have hO := delO_le hcl hnc hi
  have hS1 : ∀ u ∈ (cs.drop (delO n c i)).take ((n - (i + 1).toNat) * 4), u.oneCell' = true := fun u hu => h1 u (by
    have hu' : u ∈ delS cs n c i := hu
    obtain ⟨r, hr, e⟩ := List.mem_iff_getElem.1 hu'
    rw [delS_len hcl hnc hi] at hr
    have h2 := delS_get (cs := cs) hnc hr
    refine List.mem_of_getElem? (i := (i + 1).toNat * 4 + r) ?_
    rw [List.getElem?_take, if_pos (by omega), ← h2, ← e]
    exact List.getElem?_eq_getElem _)
  refine CTX_of Try.func76 rfl rfl rfl ?_
  try any_goals (first | (refine H_seq ?_; try refine H_reg ?_) | refine H_reg ?_)
  try any_goals (refine W_assign (d := 6) (sq_stepper upC_sep) rfl rfl rfl ?_)
  try any_goals (first | (refine Sq_nil ?_; try refine G_then ?_) | refine G_then ?_)
  try any_goals (first | (refine H_seq ?_; try refine H_reg ?_) | refine H_reg ?_)
  try any_goals (refine W_move (d := 8) (sq_stepper upC_sep) rfl rfl rfl ?_)
  try any_goals (refine W_move (d := 9) (sq_stepper upC_sep) rfl rfl rfl ?_)
  try any_goals (refine W_move (d := 10) (sq_stepper upC_sep) rfl rfl rfl ?_)
  try any_goals (refine W_move (d := 11) (sq_stepper upC_sep) rfl rfl rfl ?_)
  try any_goals (first | refine W_len (d := 12) (sq_stepper upC_sep) (by kernel_rfl) rfl rfl rfl ?_ | refine W_lenStr (d := 12) (sq_stepper upC_sep) (by kernel_rfl) rfl rfl rfl ?_ | refine W_lenO (d := 12) (sq_stepper upC_sep) (by kernel_rfl) rfl rfl rfl ?_)
  try any_goals (refine W_sliceV3 (d := 13) (sq_stepper upC_sep) (k := 4) (by kernel_rfl) rfl rfl rfl rfl rfl rfl (by omega) ?_)
  try any_goals (first | (refine Sq_nil ?_; try refine G_then ?_) | refine G_then ?_)
  try any_goals (refine H_seq ?_)
  try any_goals (first | (refine H_seq ?_; try refine H_reg ?_) | refine H_reg ?_)
  try any_goals (refine W_move (d := 14) (sq_stepper upC_sep) rfl rfl rfl ?_)
  try any_goals (refine W_move (d := 15) (sq_stepper upC_sep) rfl rfl rfl ?_)
  try any_goals (first | refine W_cmp (d := 16) (sq_stepper upC_sep) rfl rfl rfl rfl rfl ?_ | refine W_eqlStr (d := 16) (sq_stepper upC_sep) rfl rfl rfl rfl ?_ | refine W_eqlB (d := 16) (sq_stepper upC_sep) rfl rfl Try.underlying4 rfl rfl ?_)
  try any_goals (first | (refine Sq_nil ?_; try refine G_then ?_) | refine G_then ?_)
  try any_goals (first | refine H_condT rfl ?_ | refine H_condF rfl ?_ | (refine H_cond _ rfl (fun hq => ?_) (fun hq => ?_) <;> (try simp only [hqs, reduceCtorEq] at hq)))
  try any_goals (first | (refine H_seq ?_; try refine H_reg ?_) | refine H_reg ?_)
  try any_goals (refine W_move (d := 17) (sq_stepper upC_sep) rfl rfl rfl ?_)
  try any_goals (refine W_assign (d := 6) (sq_stepper upC_sep) rfl rfl rfl ?_)
  try any_goals (first | (refine Sq_nil ?_; try refine G_then ?_) | refine G_then ?_)
  try any_goals (refine H_ret ?_)
  repeat (any_goals (first | refine G_ret_then ?_ | refine G_ret_block ?_))
  try any_goals (refine H_skip ?_)
  try any_goals (refine G_then ?_)
  try any_goals (first | (refine H_seq ?_; try refine H_reg ?_) | refine H_reg ?_)
  try any_goals (refine W_move (d := 18) (sq_stepper upC_sep) rfl rfl rfl ?_)
  try any_goals (first | refine W_len (d := 19) (sq_stepper upC_sep) (by kernel_rfl) rfl rfl rfl ?_ | refine W_lenStr (d := 19) (sq_stepper upC_sep) (by kernel_rfl) rfl rfl rfl ?_ | refine W_lenO (d := 19) (sq_stepper upC_sep) (by kernel_rfl) rfl rfl rfl ?_)
  try any_goals (refine W_assign (d := 7) (sq_stepper upC_sep) rfl rfl rfl ?_)
  try any_goals (first | (refine Sq_nil ?_; try refine G_then ?_) | refine G_then ?_)
  try any_goals (refine H_seq ?_)
  try any_goals (refine H_drawT [] [0, 1, 2, 3, 4, 5] [6, 7] (by kernel_rfl) (by kernel_rfl) upC_sep (fun _ _ _ _ _ h => h) ?_)
  try any_goals (refine L_nil ?_)
  try any_goals (refine W_move (d := 20) wkH_stepper rfl rfl rfl ?_)
  try any_goals (refine W_move (d := 21) wkH_stepper rfl rfl rfl ?_)
  try any_goals (refine W_sliceVTo (d := 22) wkH_stepper (k := 4) (by kernel_rfl) rfl rfl rfl rfl (by omega) ?_)
  try any_goals (refine W_move (d := 23) wkH_stepper rfl rfl rfl ?_)
  try any_goals (refine W_move (d := 24) wkH_stepper rfl rfl rfl ?_)
  try any_goals (refine W_sliceVFrom (d := 25) wkH_stepper (k := 4) (by kernel_rfl) rfl rfl rfl rfl (by omega) ?_)
  try any_goals (refine WkH_nil ?_)
  try any_goals ((refine Sq_appRaw (d := 26) m (k := 4) (o := delO n c i) (n := n - (i + 1).toNat) hm hav (by kernel_rfl) rfl rfl rfl hO hcl (by omega) hS1 ?_; rw [show i.toNat + (n - (i + 1).toNat) = n - 1 by omega]))
  try any_goals (refine W_assign (d := 0) (sq_stepper upC_sep) rfl rfl rfl ?_)
  try any_goals (first | (refine Sq_nil ?_; try refine G_then ?_) | refine G_then ?_)
  try any_goals (first | (refine H_seq ?_; try refine H_reg ?_) | refine H_reg ?_)
  try any_goals (refine W_move (d := 27) (sq_stepper upC_sep) rfl rfl rfl ?_)
  try any_goals (refine W_move (d := 28) (sq_stepper upC_sep) rfl rfl rfl ?_)
  try any_goals (first | refine W_len (d := 29) (sq_stepper upC_sep) (by kernel_rfl) rfl rfl rfl ?_ | refine W_lenStr (d := 29) (sq_stepper upC_sep) (by kernel_rfl) rfl rfl rfl ?_ | refine W_lenO (d := 29) (sq_stepper upC_sep) (by kernel_rfl) rfl rfl rfl ?_)
  try any_goals (refine W_move (d := 30) (sq_stepper upC_sep) rfl rfl rfl ?_)
  try any_goals ((refine W_sliceVBoth (d := 31) (sq_stepper upC_sep) (k := 4) (by kernel_rfl) rfl rfl rfl rfl rfl (by omega) ?_; rw [show ((n : Nat) : Int).toNat - ((n - 1 : Nat) : Int).toNat = 1 by omega, show ((n - 1 : Nat) : Int).toNat = n - 1 by omega]; refine Sq_clearOne m (b := b) (k := 4) (e := 108) (zs := zero4) (cs := delX cs n c i) (List.getElem?_set_self hml) (hav.set trivial) (by kernel_rfl) (by kernel_rfl) rfl (by rw [delX_len hcl hnc hi]; simp only [zero4, List.length_cons, List.length_nil]; omega) (by intro x hx; simp only [zero4, List.mem_cons, List.not_mem_nil, or_false, or_self] at hx; subst hx; rfl) ?_))
  try any_goals (refine W_lenO (sq_stepper upC_sep) (by kernel_rfl) rfl rfl rfl ?_)
  try any_goals (first | (refine Sq_nil ?_; try refine G_then ?_) | refine G_then ?_)
  try any_goals (first | (refine H_seq ?_; try refine H_reg ?_) | refine H_reg ?_)
  try any_goals (refine W_move (d := 32) (sq_stepper upC_sep) rfl rfl rfl ?_)
  try any_goals (refine W_assign (d := 6) (sq_stepper upC_sep) rfl rfl rfl ?_)
  try any_goals (first | (refine Sq_nil ?_; try refine G_then ?_) | refine G_then ?_)
  try any_goals (refine H_ret ?_)
  repeat (any_goals (first | refine G_ret_then ?_ | refine G_ret_block ?_))
  all_goals first
    | (exfalso; omega)
    | exact RX1 rfl rfl (fun v w h hv => ⟨(), by rw [List.set_set] at h; exact h, hv⟩)
    | trace_state
theorem cx_DelR {w0 : World} {L : List Osl} (m : Nat) {xs : List Rn} {v : Value} (i : Int) (hm : L[m]? = some (.sl Rn 108 pRn xs v)) (hav : avAll L 108) (hi : 0 ≤ i ∧ i < (xs.length : Int)) :
    CTX Try.prog 76 (Sep w0 L) [.inl v, .inl (.int .i64 i), .inl (.int .i64 (i + 1))] (σ := Value) (fun v' => Sep w0 (L.set m (.sl Rn 108 pRn (cnX xs i) v'))) (fun v' => .inl v') := by
  intro w vs hS hok
  obtain ⟨b, c, cs, hv, h3, h4, h5, h7, hS'⟩ := hS.toRaw hm (by omega)
  subst hv
  have hml : m < L.length := (List.getElem?_eq_some_iff.1 hm).1
  have h5' : cs.length = c * 4 := h5
  have hln : (cnX xs i).length = xs.length - 1 := by rw [cnX, List.length_append, List.length_take, List.length_drop]; omega
  refine (cx_DelR0 (L := L.set m (.raw 108 b cs)) m xs.length i (List.getElem?_set_self hml) (hav.set trivial) hi h3 h4 h5' (ls_one h5' h3 h7) w vs hS' hok).mono fun en w' ⟨v, he, _, hC, hR⟩ => ⟨v, he, v, ?_, rfl⟩
  obtain rfl : v = _ := hR
  have hC' : Sep w0 ((L.set m (.raw 108 b cs)).set m (.raw 108 b (delC cs xs.length c i))) w' := hC
  rw [List.set_set] at hC'
  have h8 := hC'.ofRaw (m := m) (c := c) (α := Rn) (Ψ := pRn) (xs := cnX xs i) (List.getElem?_set_self hml) (by omega) h4 (by rw [delC_len h5' h3 hi]; exact h5) (fun w1 _ => delC_ls h5' h3 hi h7)
  rwa [List.set_set, hln] at h8
theorem cg_iCancel {e : Option TypeId} (t : Tab) (xs : List Rn) (id : Int) (hb : xs.length ≤ 1048576) : CTG Try.prog 26 [.inr (uA bTab t), .inr (uS e pRn xs), .inl (.int .i64 id)] (fun g => .inr (uT [.inr (uO g oRunS (cnR t xs id)), .inl (.bool (rtOk t xs id))])) := by
  refine CTG_of Try.func26 rfl rfl rfl (fun w g hs => ?_)
  have hC := upC_ext w
  have hfb := fndR_bd (xs := xs) (id := id)
  cases h : rnsB t xs
  · have h' : (tabB t && runsB t xs) = false := h
    have hn : rtOk t xs id = false := rtOk_n (.inl h)
    try any_goals (first | (refine H_seq ?_; try refine H_reg ?_) | refine H_reg ?_)
    try any_goals (refine W_boxA (d := 3) (sq_stepper hC) rfl rfl rfl ?_)
    try any_goals (refine W_assign (d := 6) (sq_stepper hC) rfl rfl rfl ?_)
    try any_goals (refine W_assign (d := 7) (sq_stepper hC) rfl rfl rfl ?_)
    try any_goals (first | (refine Sq_nil ?_; try refine G_then ?_) | refine G_then ?_)
    try any_goals (refine H_seq ?_)
    try any_goals (first | (refine H_seq ?_; try refine H_reg ?_) | refine H_reg ?_)
    try any_goals (refine W_loadA (d := 9) (sq_stepper hC) (by kernel_rfl) rfl rfl rfl ?_)
    try any_goals (refine W_move (d := 10) (sq_stepper hC) rfl rfl rfl ?_)
    try any_goals (refine W_ct (d := 11) (sq_stepper hC) (h' ▸ ct_iValidRuns _ _) rfl rfl rfl (by kernel_rfl) ?_)
    try any_goals (refine W_not (d := 12) (sq_stepper hC) rfl rfl rfl ?_)
    try any_goals (first | (refine Sq_nil ?_; try refine G_then ?_) | refine G_then ?_)
    try any_goals (first | refine H_condT rfl ?_ | refine H_condF rfl ?_ | (refine H_cond _ rfl (fun hq => ?_) (fun hq => ?_) <;> (try simp only [hqs, reduceCtorEq] at hq)))
    try any_goals (first | (refine H_seq ?_; try refine H_reg ?_) | refine H_reg ?_)
    try any_goals (refine W_assign (d := 6) (sq_stepper hC) rfl rfl rfl ?_)
    try any_goals (refine W_assign (d := 7) (sq_stepper hC) rfl rfl rfl ?_)
    try any_goals (first | (refine Sq_nil ?_; try refine G_then ?_) | refine G_then ?_)
    try any_goals (refine H_ret ?_)
    repeat (any_goals (first | refine G_ret_then ?_ | refine G_ret_block ?_))
    try any_goals (refine H_skip ?_)
    try any_goals (refine G_then ?_)
    try any_goals (first | (refine H_seq ?_; try refine H_reg ?_) | refine H_reg ?_)
    try any_goals (refine W_move (d := 13) (sq_stepper hC) rfl rfl rfl ?_)
    try any_goals (refine W_move (d := 14) (sq_stepper hC) rfl rfl rfl ?_)
    try any_goals (fail)
    try any_goals (refine W_assign (d := 8) (sq_stepper hC) rfl rfl rfl ?_)
    try any_goals (first | (refine Sq_nil ?_; try refine G_then ?_) | refine G_then ?_)
    try any_goals (refine H_seq ?_)
    try any_goals (first | (refine H_seq ?_; try refine H_reg ?_) | refine H_reg ?_)
    try any_goals (refine W_move (d := 16) (sq_stepper hC) rfl rfl rfl ?_)
    try any_goals (first | refine W_cmp (d := 17) (sq_stepper hC) rfl rfl rfl rfl rfl ?_ | refine W_strcmp (d := 17) (sq_stepper hC) rfl rfl rfl rfl rfl ?_)
    try any_goals (first | (refine Sq_nil ?_; try refine G_then ?_) | refine G_then ?_)
    try any_goals (first | refine H_condT rfl ?_ | refine H_condF rfl ?_ | (refine H_cond _ rfl (fun hq => ?_) (fun hq => ?_) <;> (try simp only [hqs, reduceCtorEq] at hq)))
    try any_goals (first | (refine H_seq ?_; try refine H_reg ?_) | refine H_reg ?_)
    try any_goals (refine W_assign (d := 6) (sq_stepper hC) rfl rfl rfl ?_)
    try any_goals (refine W_assign (d := 7) (sq_stepper hC) rfl rfl rfl ?_)
    try any_goals (first | (refine Sq_nil ?_; try refine G_then ?_) | refine G_then ?_)
    try any_goals (refine H_ret ?_)
    repeat (any_goals (first | refine G_ret_then ?_ | refine G_ret_block ?_))
    try any_goals (refine H_skip ?_)
    try any_goals (refine G_then ?_)
    try any_goals (first | (refine H_seq ?_; try refine H_reg ?_) | refine H_reg ?_)
    try any_goals (refine W_move (d := 18) (sq_stepper hC) rfl rfl rfl ?_)
    try any_goals (fail)
    try any_goals (refine W_move (d := 20) (sq_stepper hC) rfl rfl rfl ?_)
    try any_goals (refine W_move (d := 21) (sq_stepper hC) rfl rfl rfl ?_)
    try any_goals (refine W_ar (d := 22) (sq_stepper hC) rfl rfl rfl rfl rfl (by first | omega | (dsimp only; omega)) ?_)
    try any_goals (fail)
    try any_goals (refine W_assign (d := 6) (sq_stepper hC) rfl rfl rfl ?_)
    try any_goals (refine W_assign (d := 7) (sq_stepper hC) rfl rfl rfl ?_)
    try any_goals (first | (refine Sq_nil ?_; try refine G_then ?_) | refine G_then ?_)
    try any_goals (refine H_ret ?_)
    repeat (any_goals (first | refine G_ret_then ?_ | refine G_ret_block ?_))
    all_goals exact R2 rfl (fun _ h => h) rfl rfl (fun v w' _ hv => by rw [cnR, hn, show v = _ from hv]; exact nil_OS) (fun v w' _ hv => by rw [hn]; exact hv)
  · have h' : (tabB t && runsB t xs) = true := h
    by_cases h0 : 0 ≤ fndR xs id
    · have hn : rtOk t xs id = true := rtOk_y h h0
      have hR : cnR t xs id = cnX xs (fndR xs id) := by rw [cnR, hn]; rfl
      try any_goals (first | (refine H_seq ?_; try refine H_reg ?_) | refine H_reg ?_)
      try any_goals (refine W_boxA (d := 3) (sq_stepper hC) rfl rfl rfl ?_)
      try any_goals (refine W_assign (d := 6) (sq_stepper hC) rfl rfl rfl ?_)
      try any_goals (refine W_assign (d := 7) (sq_stepper hC) rfl rfl rfl ?_)
      try any_goals (first | (refine Sq_nil ?_; try refine G_then ?_) | refine G_then ?_)
      try any_goals (refine H_seq ?_)
      try any_goals (first | (refine H_seq ?_; try refine H_reg ?_) | refine H_reg ?_)
      try any_goals (refine W_loadA (d := 9) (sq_stepper hC) (by kernel_rfl) rfl rfl rfl ?_)
      try any_goals (first | refine W_moveR (d := 10) (sq_stepper hC) (U := uS e pRn xs) (fun w' h => UR.lift (Sep.ext h) hr1) rfl rfl rfl ?_ | refine W_move (d := 10) (sq_stepper hC) rfl rfl rfl ?_)
      try any_goals (refine W_ct (d := 11) (sq_stepper hC) (h' ▸ ct_iValidRuns _ _) rfl rfl rfl (by kernel_rfl) ?_)
      try any_goals (refine W_not (d := 12) (sq_stepper hC) rfl rfl rfl ?_)
      try any_goals (first | (refine Sq_nil ?_; try refine G_then ?_) | refine G_then ?_)
      try any_goals (first | refine H_condT rfl ?_ | refine H_condF rfl ?_ | (refine H_cond _ rfl (fun hq => ?_) (fun hq => ?_) <;> (try simp only [hqs, reduceCtorEq] at hq)))
      try any_goals (first | (refine H_seq ?_; try refine H_reg ?_) | refine H_reg ?_)
      try any_goals (refine W_assign (d := 6) (sq_stepper hC) rfl rfl rfl ?_)
      try any_goals (refine W_assign (d := 7) (sq_stepper hC) rfl rfl rfl ?_)
      try any_goals (first | (refine Sq_nil ?_; try refine G_then ?_) | refine G_then ?_)
      try any_goals (refine H_ret ?_)
      repeat (any_goals (first | refine G_ret_then ?_ | refine G_ret_block ?_))
      try any_goals (refine H_skip ?_)
      try any_goals (refine G_then ?_)
      try any_goals (first | (refine H_seq ?_; try refine H_reg ?_) | refine H_reg ?_)
      try any_goals (first | refine W_moveR (d := 13) (sq_stepper hC) (U := uS e pRn xs) (fun w' h => UR.lift (Sep.ext h) hr1) rfl rfl rfl ?_ | refine W_move (d := 13) (sq_stepper hC) rfl rfl rfl ?_)
      try any_goals (refine W_move (d := 14) (sq_stepper hC) rfl rfl rfl ?_)
      try any_goals (refine W_ct (d := 15) (sq_stepper hC) (ct_runIndex _ _) rfl rfl rfl (by kernel_rfl) ?_)
      try any_goals (refine W_assign (d := 8) (sq_stepper hC) rfl rfl rfl ?_)
      try any_goals (first | (refine Sq_nil ?_; try refine G_then ?_) | refine G_then ?_)
      try any_goals (refine H_seq ?_)
      try any_goals (first | (refine H_seq ?_; try refine H_reg ?_) | refine H_reg ?_)
      try any_goals (refine W_move (d := 16) (sq_stepper hC) rfl rfl rfl ?_)
      try any_goals (first | refine W_cmp (d := 17) (sq_stepper hC) rfl rfl rfl rfl rfl ?_ | refine W_strcmp (d := 17) (sq_stepper hC) rfl rfl rfl rfl rfl ?_)
      try any_goals (first | (refine Sq_nil ?_; try refine G_then ?_) | refine G_then ?_)
      try any_goals (first | refine H_condT rfl ?_ | refine H_condF rfl ?_ | (refine H_cond _ rfl (fun hq => ?_) (fun hq => ?_) <;> (try simp only [hqs, reduceCtorEq] at hq)))
      try any_goals (first | (refine H_seq ?_; try refine H_reg ?_) | refine H_reg ?_)
      try any_goals (refine W_assign (d := 6) (sq_stepper hC) rfl rfl rfl ?_)
      try any_goals (refine W_assign (d := 7) (sq_stepper hC) rfl rfl rfl ?_)
      try any_goals (first | (refine Sq_nil ?_; try refine G_then ?_) | refine G_then ?_)
      try any_goals (refine H_ret ?_)
      repeat (any_goals (first | refine G_ret_then ?_ | refine G_ret_block ?_))
      try any_goals (refine H_skip ?_)
      try any_goals (refine G_then ?_)
      try any_goals (refine H_seq ?_)
      try any_goals (have hE : Ext _ _ := Ext.refl w)
      try any_goals (refine H_open 1 rfl (fun q u1 hw hr1 => ?_); have hE := hE.trans hw)
      try any_goals (refine H_weakenC (C' := Sep q []) (fun w' h => sep_start h) ?_; have hC : UpC (Sep q []) := upC_sep)
      try any_goals (refine H_reg ?_)
      try any_goals (first | refine W_moveR (d := 18) (sq_stepper upC_sep) (U := uS e pRn xs) (fun w' h => UR.lift (Sep.ext h) hr1) rfl rfl rfl ?_ | refine W_move (d := 18) (sq_stepper upC_sep) rfl rfl rfl ?_)
      try any_goals ((refine Sq_callS (cg_cloneR xs (by omega) hb) rfl rfl (by kernel_rfl) (fun v19 => ?_)))
      try any_goals (refine W_move (d := 20) (sq_stepper upC_sep) rfl rfl rfl ?_)
      try any_goals (refine W_move (d := 21) (sq_stepper upC_sep) rfl rfl rfl ?_)
      try any_goals (refine W_ar (d := 22) (sq_stepper upC_sep) rfl rfl rfl rfl rfl (by first | omega | (dsimp only; omega)) ?_)
      try any_goals ((refine Sq_ctx (cx_DelR 0 (fndR xs id) rfl ⟨⟨trivial, trivial, trivial, trivial, trivial⟩, trivial⟩ ⟨by omega, by omega⟩) rfl rfl (by kernel_rfl) (fun v23 => ?_)))
      try any_goals (refine W_assign (d := 6) (sq_stepper upC_sep) rfl rfl rfl ?_)
      try any_goals (refine W_assign (d := 7) (sq_stepper upC_sep) rfl rfl rfl ?_)
      try any_goals (first | (refine Sq_nil ?_; try refine G_then ?_) | refine G_then ?_)
      try any_goals (refine H_ret ?_)
      repeat (any_goals (first | refine G_ret_then ?_ | refine G_ret_block ?_))
      all_goals first
        | (exfalso; omega)
        | exact R2 rfl (fun _ h => hE.trans h.ext) rfl rfl (fun v w' hc hv => by rw [hR, show v = _ from hv]; exact hc.isO (m := 0) rfl (Nat.le_trans hs hE.size)) (fun v w' _ hv => by rw [hn]; exact hv)
        | trace_state
    · have hn : rtOk t xs id = false := rtOk_n (.inr (by omega))
      try any_goals (first | (refine H_seq ?_; try refine H_reg ?_) | refine H_reg ?_)
      try any_goals (refine W_boxA (d := 3) (sq_stepper hC) rfl rfl rfl ?_)
      try any_goals (refine W_assign (d := 6) (sq_stepper hC) rfl rfl rfl ?_)
      try any_goals (refine W_assign (d := 7) (sq_stepper hC) rfl rfl rfl ?_)
      try any_goals (first | (refine Sq_nil ?_; try refine G_then ?_) | refine G_then ?_)
      try any_goals (refine H_seq ?_)
      try any_goals (first | (refine H_seq ?_; try refine H_reg ?_) | refine H_reg ?_)
      try any_goals (refine W_loadA (d := 9) (sq_stepper hC) (by kernel_rfl) rfl rfl rfl ?_)
      try any_goals (refine W_move (d := 10) (sq_stepper hC) rfl rfl rfl ?_)
      try any_goals (refine W_ct (d := 11) (sq_stepper hC) (h' ▸ ct_iValidRuns _ _) rfl rfl rfl (by kernel_rfl) ?_)
      try any_goals (refine W_not (d := 12) (sq_stepper hC) rfl rfl rfl ?_)
      try any_goals (first | (refine Sq_nil ?_; try refine G_then ?_) | refine G_then ?_)
      try any_goals (first | refine H_condT rfl ?_ | refine H_condF rfl ?_ | (refine H_cond _ rfl (fun hq => ?_) (fun hq => ?_) <;> (try simp only [hqs, reduceCtorEq] at hq)))
      try any_goals (first | (refine H_seq ?_; try refine H_reg ?_) | refine H_reg ?_)
      try any_goals (refine W_assign (d := 6) (sq_stepper hC) rfl rfl rfl ?_)
      try any_goals (refine W_assign (d := 7) (sq_stepper hC) rfl rfl rfl ?_)
      try any_goals (first | (refine Sq_nil ?_; try refine G_then ?_) | refine G_then ?_)
      try any_goals (refine H_ret ?_)
      repeat (any_goals (first | refine G_ret_then ?_ | refine G_ret_block ?_))
      try any_goals (refine H_skip ?_)
      try any_goals (refine G_then ?_)
      try any_goals (first | (refine H_seq ?_; try refine H_reg ?_) | refine H_reg ?_)
      try any_goals (refine W_move (d := 13) (sq_stepper hC) rfl rfl rfl ?_)
      try any_goals (refine W_move (d := 14) (sq_stepper hC) rfl rfl rfl ?_)
      try any_goals (refine W_ct (d := 15) (sq_stepper hC) (ct_runIndex _ _) rfl rfl rfl (by kernel_rfl) ?_)
      try any_goals (refine W_assign (d := 8) (sq_stepper hC) rfl rfl rfl ?_)
      try any_goals (first | (refine Sq_nil ?_; try refine G_then ?_) | refine G_then ?_)
      try any_goals (refine H_seq ?_)
      try any_goals (first | (refine H_seq ?_; try refine H_reg ?_) | refine H_reg ?_)
      try any_goals (refine W_move (d := 16) (sq_stepper hC) rfl rfl rfl ?_)
      try any_goals (first | refine W_cmp (d := 17) (sq_stepper hC) rfl rfl rfl rfl rfl ?_ | refine W_strcmp (d := 17) (sq_stepper hC) rfl rfl rfl rfl rfl ?_)
      try any_goals (first | (refine Sq_nil ?_; try refine G_then ?_) | refine G_then ?_)
      try any_goals (first | refine H_condT rfl ?_ | refine H_condF rfl ?_ | (refine H_cond _ rfl (fun hq => ?_) (fun hq => ?_) <;> (try simp only [hqs, reduceCtorEq] at hq)))
      try any_goals (first | (refine H_seq ?_; try refine H_reg ?_) | refine H_reg ?_)
      try any_goals (refine W_assign (d := 6) (sq_stepper hC) rfl rfl rfl ?_)
      try any_goals (refine W_assign (d := 7) (sq_stepper hC) rfl rfl rfl ?_)
      try any_goals (first | (refine Sq_nil ?_; try refine G_then ?_) | refine G_then ?_)
      try any_goals (refine H_ret ?_)
      repeat (any_goals (first | refine G_ret_then ?_ | refine G_ret_block ?_))
      try any_goals (refine H_skip ?_)
      try any_goals (refine G_then ?_)
      try any_goals (first | (refine H_seq ?_; try refine H_reg ?_) | refine H_reg ?_)
      try any_goals (refine W_move (d := 18) (sq_stepper hC) rfl rfl rfl ?_)
      try any_goals (fail)
      try any_goals (refine W_move (d := 20) (sq_stepper hC) rfl rfl rfl ?_)
      try any_goals (refine W_move (d := 21) (sq_stepper hC) rfl rfl rfl ?_)
      try any_goals (refine W_ar (d := 22) (sq_stepper hC) rfl rfl rfl rfl rfl (by first | omega | (dsimp only; omega)) ?_)
      try any_goals (fail)
      try any_goals (refine W_assign (d := 6) (sq_stepper hC) rfl rfl rfl ?_)
      try any_goals (refine W_assign (d := 7) (sq_stepper hC) rfl rfl rfl ?_)
      try any_goals (first | (refine Sq_nil ?_; try refine G_then ?_) | refine G_then ?_)
      try any_goals (refine H_ret ?_)
      repeat (any_goals (first | refine G_ret_then ?_ | refine G_ret_block ?_))
      all_goals first
        | (exfalso; omega)
        | exact R2 rfl (fun _ h => h) rfl rfl (fun v w' _ hv => by rw [cnR, hn, show v = _ from hv]; exact nil_OS) (fun v w' _ hv => by rw [hn]; exact hv)
        | trace_state
theorem cnR_len {t : Tab} {xs : List Rn} {id : Int} : (cnR t xs id).length ≤ xs.length := by
  unfold cnR cnX
  split
  · rw [List.length_append, List.length_take, List.length_drop]
    have : (fndR xs id).toNat ≤ (fndR xs id + 1).toNat := by omega
    omega
  · simp
end Go.Proofs.Ytikijhclakccpaa

/- Depots that a call made: their memory; marked with numbers in order, and read again. -/
import Derived.Test.YtbipnenkgkebjaaDtk
import Derived.Test.YtbipnenkgkebjaaMR
import Derived.Test.YtbipnenkgkebjaaDepM
namespace Go.Proofs.Ytbipnenkgkebjaa
set_option linter.unusedSimpArgs false
set_option linter.unusedVariables false
open Go.RowKit Go.ChangeShapes Go.WideShapes Go.ChangeAt Go.Deep
theorem OS.mono {α : Type} {e : TypeId} {Ψ : Phi α} {xs : List α} {S S' : Nat → Prop} {v : Value} {w : World} (h : OS e Ψ xs S v w) (hS : ∀ b, S b → b < w.heap.size → S' b) : OS e Ψ xs S' v w := by
  obtain ⟨A, n, c, cs, h1, h2, h3, h4, h5, h6, h7, h8, h9⟩ := h
  refine ⟨A, n, c, cs, h1, h2, h3, h4, h5, h6, fun g hg => hS g (h7 g hg) ?_, h8, h9⟩
  subst hg
  exact Blk.lt (h6 : Blk w g e cs)
theorem oR_mono {ls : List (List Int)} {S S' : Nat → Prop} {v : Value} {w : World} (h : oR.R ls S v w) (hS : ∀ b, S b → b < w.heap.size → S' b) : oR.R ls S' v w := by
  obtain ⟨vs, S0, Sr, ⟨h1, h2, h3⟩, h4, h5, h6⟩ := h
  exact ⟨vs, fun b => S0 b ∧ b < w.heap.size, fun i b => Sr i b ∧ b < w.heap.size, ⟨h1.mono fun b hb hl => ⟨hb, hl⟩, h2, fun i hi => (h3 i hi).mono fun b hb hl => ⟨hb, hl⟩⟩, fun b hb => hS b (h4 b hb.1) hb.2, fun i b hb => ⟨hS b (h5 i b hb.1).1 hb.2, fun h0 => (h5 i b hb.1).2 h0.1⟩, fun i j b hij h h' => h6 i j b hij h.1 h'.1⟩
def oDep : Ow Dep := ⟨fun d S v w => ∃ vS vT S1 S2, v = .agg (([vS, vT] : List Value)).toArray ∧ OS 3 pI d.S S1 vS w ∧ oR.R d.T S2 vT w ∧ (∀ b, S1 b → S b) ∧ (∀ b, S2 b → S b) ∧ ∀ b, S1 b → S2 b → False,
  fun d S T v w w' ⟨vS, vT, S1, S2, h1, h2, h3, h4, h5, h6⟩ hk hd => ⟨vS, vT, S1, S2, h1, (oF _ pI flat_I).keep _ _ _ _ _ _ h2 hk (fun b hb ht => hd b (h4 b hb) ht), oR.keep _ _ _ _ _ _ h3 hk (fun b hb ht => hd b (h5 b hb) ht), h4, h5, h6⟩⟩
theorem oDep_isA {d : Dep} {S : Nat → Prop} {v : Value} {w : World} (h : oDep.R d S v w) : (uA bDep d).R v w := by
  obtain ⟨vS, vT, S1, S2, h1, h2, h3, _⟩ := h
  exact ⟨[vS, vT], h1, [vS], _, rfl, ⟨_, rfl, h2.isS⟩, [vT], _, rfl, ⟨_, rfl, oR_isS h3⟩, rfl⟩
theorem oDep_cells {d : Dep} {S : Nat → Prop} {v : Value} {w : World} (h : oDep.R d S v w) : ∃ cs : List Value, v = .agg cs.toArray ∧ cs.length = 2 ∧ ∀ u ∈ cs, u.oneCell' = true := by
  obtain ⟨vS, vT, S1, S2, h1, h2, h3, _⟩ := h
  obtain ⟨vs, S0, Sr, hr, _⟩ := h3
  obtain ⟨A, n, c, cs, ⟨p, e1, _⟩, _⟩ := h2
  obtain ⟨A2, n2, c2, cs2, ⟨p2, e2, _⟩, _⟩ := hr.o
  refine ⟨[vS, vT], h1, rfl, fun u hu => ?_⟩
  simp only [List.mem_cons, List.not_mem_nil, or_false] at hu
  rcases hu with rfl | rfl
  · rw [e1]; rfl
  · rw [e2]; rfl
theorem oDep_nil {s : Nat} {w : World} : (uO s oDep ⟨[], []⟩).R (.agg (([.slice none 0 0, .slice none 0 0] : List Value)).toArray) w := by
  obtain ⟨S2, h2, h3⟩ := nil_oR (s := s) (w := w)
  exact ⟨S2, h2, _, _, fun _ => False, S2, rfl, ⟨none, 0, 0, [], ⟨_, rfl, .inl rfl⟩, rfl, Nat.le_refl _, Nat.zero_le _, by simp, rfl, (fun g e => by cases e), (fun _ => rfl), ls_nil⟩, h3, fun _ h => h.elim, fun _ h => h, fun _ h _ => h.elim⟩
/-- What the memory of one's own gives away. -/
theorem Sep.oDep {w0 w : World} {d : Dep} {vS vT : Value} {vs : List Value} {L0 : List Osl} {s : Nat} (h : Sep w0 (dpL d vS vT vs ++ L0) w) (hl : vs.length = d.T.length) (hs : s ≤ w0.heap.size) : (uO s Go.Proofs.Ytbipnenkgkebjaa.oDep d).R (.agg (([vS, vT] : List Value)).toArray) w := by
  unfold Sep at h
  obtain ⟨Bs, hbl, hc⟩ := h
  have hget : ∀ {j : Nat} {o : Osl}, (dpL d vS vT vs ++ L0)[j]? = some o → ∃ x, Bs[j]? = some x ∧ o.at x w ∧ BlkO w x ∧ ∀ b, x.1 = some b → s ≤ b ∧ b < w.heap.size := fun {j o} ho => by
    have hj : j < Bs.length := by rw [hbl]; exact (List.getElem?_eq_some_iff.1 ho).1
    have hx := List.getElem?_eq_getElem hj
    have hb := hc.blk _ (List.mem_of_getElem? hx)
    refine ⟨_, hx, hc.fct j o _ ho hx, hb, fun b e => ⟨Nat.le_trans hs (hc.lo b (List.mem_filterMap.2 ⟨_, List.mem_of_getElem? hx, e⟩)), ?_⟩⟩
    generalize Bs[j] = x at hb e
    obtain ⟨A, t, cs⟩ := x
    have e : A = some b := e
    subst e
    exact Blk.lt (hb : Blk w b t cs)
  let bk : Nat → Nat → Prop := fun j b => ∃ x, Bs[j]? = some x ∧ x.1 = some b
  have hinj : ∀ {j j' b}, bk j b → bk j' b → j = j' := fun {j j' b} ⟨x, hx, e⟩ ⟨y, hy, e'⟩ => nodup_far hc.nd hx hy e e'
  have hin : ∀ {j o b}, (dpL d vS vT vs ++ L0)[j]? = some o → bk j b → s ≤ b ∧ b < w.heap.size := fun {j o b} ho ⟨x, hx, e⟩ => by
    obtain ⟨y, hy, _, _, h4⟩ := hget ho
    rw [hx] at hy
    injection hy with hy
    subst hy
    exact h4 b e
  have h0 : (dpL d vS vT vs ++ L0)[0]? = some (.sl Int 3 pI d.S vS) := rfl
  have h1 : (dpL d vS vT vs ++ L0)[1]? = some (.sl Value 22 pV vs vT) := rfl
  have hr : ∀ i : Nat, i < d.T.length → (dpL d vS vT vs ++ L0)[i + 2]? = some (.sl Int 3 pI (ix d.T i) (ix vs i)) := fun i hi => dpL_row hl hi
  refine ⟨fun b => s ≤ b ∧ b < w.heap.size, fun b h => h, vS, vT, bk 0, fun b => bk 1 b ∨ ∃ i, i < d.T.length ∧ bk (i + 2) b, rfl, ?_, ⟨vs, bk 1, fun i b => i < d.T.length ∧ bk (i + 2) b, ⟨?_, hl, fun i hi => ?_⟩, fun b hb => .inl hb, fun i b ⟨hi, hb⟩ => ⟨.inr ⟨i, hi, hb⟩, fun h' => ?_⟩, fun i j b hij ⟨_, hb⟩ ⟨_, hb'⟩ => ?_⟩, fun b hb => hin h0 hb, fun b hb => ?_, fun b hb hb' => ?_⟩
  · obtain ⟨x, hx, g1, g2, _⟩ := hget h0
    exact at_OS g1 g2 fun g e => ⟨x, hx, e⟩
  · obtain ⟨x, hx, g1, g2, _⟩ := hget h1
    exact at_OS g1 g2 fun g e => ⟨x, hx, e⟩
  · obtain ⟨x, hx, g1, g2, _⟩ := hget (hr i hi)
    exact at_OS g1 g2 fun g e => ⟨hi, x, hx, e⟩
  · have := hinj hb h'
    omega
  · have := hinj hb hb'
    omega
  · rcases hb with hb | ⟨i, hi, hb⟩
    · exact hin h1 hb
    · exact hin (hr i hi) hb
  · rcases hb' with hb' | ⟨i, hi, hb'⟩
    · have := hinj hb hb'
      omega
    · have := hinj hb hb'
      omega
def numD (k : Int) (d : Dep) : Dep := ⟨numL numIntS 1 k d.S.length, numR (k + d.S.length) d.T⟩
def kDep (k : Int) (d : Dep) : Int := kAt (k + d.S.length) d.T d.T.length
structure DepS (d : Dep) : Prop where
  s : (d.S.length : Int) ≤ 4
  t : (d.T.length : Int) ≤ 4
  r : ∀ i : Nat, i < d.T.length → ((ix d.T i).length : Int) ≤ 8
theorem DvI.sm {d : Dep} (h : DvI d) : DepS d := by
  have h1 := h.l
  have h2 := h.n
  exact ⟨by omega, by omega, fun i hi => h.row' ⟨by omega, by omega⟩⟩
theorem depS_nil : DepS ⟨[], []⟩ := ⟨by simp, by simp, fun i hi => by simp at hi⟩
theorem kDep_bd {d : Dep} {k : Int} (h : DepS d) : k ≤ kDep k d ∧ kDep k d ≤ k + 36 := by
  have h1 := h.s
  have h2 := h.t
  have := kAt_bd (k := k + d.S.length) (c := 8) h.r (Nat.le_refl d.T.length)
  unfold kDep
  omega
theorem mk_DepO (d : Dep) (k : Int) (hk : 0 ≤ k ∧ k ≤ 1000) (hd : DepS d) : MK Try.prog 16 oDep d k (numD k d) (kDep k d) := by
  have hds := hd.s
  have hdt := hd.t
  unfold MK
  intro w v S ⟨vS, vT, S1, S2, hv, h1, h2, hS1, hS2, hdis⟩
  subst hv
  let S1' : Nat → Prop := fun b => S1 b ∧ b < w.heap.size
  let S2' : Nat → Prop := fun b => S2 b ∧ b < w.heap.size
  let S' : Nat → Prop := fun b => S1' b ∨ S2' b
  have h1 : OS 3 pI d.S S1' vS w := h1.mono fun b hb hl => ⟨hb, hl⟩
  have h2 : oR.R d.T S2' vT w := oR_mono h2 fun b hb hl => ⟨hb, hl⟩
  have hS'lt : ∀ b, S' b → b < w.heap.size := fun b hb => hb.elim (·.2) (·.2)
  let D : Nat → List Int → List (List Int) → World → Prop := fun g xs T w' => Keep S' w w' ∧ Blk w' g 29 [vS, vT] ∧ OS 3 pI xs S1' vS w' ∧ oR.R T S2' vT w'
  have hD : ∀ g xs T, UpC (D g xs T) := fun g xs T _ _ h he => ⟨upC_keep _ _ h.1 he, h.2.1.ext he, (oF _ pI flat_I).keep _ _ (fun _ => False) _ _ _ h.2.2.1 (Keep.of_ext he) (fun _ _ h => h), oR.keep _ _ (fun _ => False) _ _ _ h.2.2.2 (Keep.of_ext he) (fun _ _ h => h)⟩
  have hc1 : ∀ g, w.heap.size ≤ g → CTX Try.prog 17 (D g d.S d.T) [.inl vS, .inl (.int .i64 k)] (fun _ : Unit => D g (numL numIntS 1 k d.S.length) d.T) (fun _ => .inl (.int .i64 (k + d.S.length))) := by
    intro g hg w1 args hd1 hargs
    match args, hargs with
    | [a0, a1], ⟨ha0, ha1, _⟩ =>
      have ha0 : vS = a0 := (ha0 : a0 = vS).symm
      subst ha0
      obtain rfl : a1 = _ := ha1
      have hm := mk_IntS d.S k ⟨by omega, by omega⟩
      unfold MK at hm
      refine (hm w1 vS S1' hd1.2.2.1).mono fun e w2 ⟨he, hk2, h3⟩ => ⟨_, he, (), ⟨hd1.1.trans (hk2.mono fun b hb => .inl hb), hk2.blk hd1.2.1 fun hb => ?_, h3, oR.keep _ _ _ _ _ _ hd1.2.2.2 hk2 fun b hb hb' => hdis b hb'.1 hb.1⟩, by rw [Int.one_mul]; rfl⟩
      have := hb.2
      omega
  have hc2 : ∀ g, w.heap.size ≤ g → CTX Try.prog 47 (D g (numL numIntS 1 k d.S.length) d.T) [.inl vT, .inl (.int .i64 (k + d.S.length))] (fun _ : Unit => D g (numL numIntS 1 k d.S.length) (numR (k + d.S.length) d.T)) (fun _ => .inl (.int .i64 (kDep k d))) := by
    intro g hg w1 args hd1 hargs
    match args, hargs with
    | [a0, a1], ⟨ha0, ha1, _⟩ =>
      have ha0 : vT = a0 := (ha0 : a0 = vT).symm
      subst ha0
      obtain rfl : a1 = _ := ha1
      have hm := mk_Rows d.T (k + d.S.length) ⟨by omega, by omega, by omega⟩ (fun i hi => Int.le_trans (hd.r i hi) (by decide))
      unfold MK at hm
      refine (hm w1 vT S2' hd1.2.2.2).mono fun e w2 ⟨he, hk2, h3⟩ => ⟨_, he, (), ⟨hd1.1.trans (hk2.mono fun b hb => .inr hb), hk2.blk hd1.2.1 fun hb => ?_, (oF _ pI flat_I).keep _ _ _ _ _ _ hd1.2.2.1 hk2 fun b hb hb' => hdis b hb.1 hb'.1, h3⟩, rfl⟩
      have := hb.2
      omega
  have key : CTX Try.prog 16 (fun u => u = w) [.inl (.agg (([vS, vT] : List Value)).toArray), .inl (.int .i64 k)] (fun g : Nat => D g (numL numIntS 1 k d.S.length) (numR (k + d.S.length) d.T)) (fun _ => .inl (.int .i64 (kDep k d))) := by
    refine CTX_of Try.func16 rfl rfl rfl ?_
    refine H_weakenC (C' := Ext w) (fun u hu => by subst hu; exact Ext.refl _) ?_
    have hC := upC_ext w
    try any_goals (first | (refine H_seq ?_; try refine H_reg ?_) | refine H_reg ?_)
    try any_goals (refine W_boxT (d := 2) (sq_stepper hC) (cs := [vS, vT]) (s := w.heap.size) (fun w' h => h.size) rfl rfl rfl ?_)
    try any_goals (refine W_assign (d := 4) (sq_stepper hC) rfl rfl rfl ?_)
    try any_goals (first | (refine Sq_nil ?_; try refine G_then ?_) | refine G_then ?_)
    try any_goals (refine H_seq ?_)
    try any_goals (refine H_open 2 rfl (fun wr v2 hw hv2 => ?_); obtain ⟨g, rfl, hg, hbk⟩ := hv2; refine H_weakenC (C' := D g d.S d.T) (fun w' h => (⟨Keep.of_ext (hw.trans h), hbk.ext h, (oF _ pI flat_I).keep _ _ (fun _ => False) _ _ _ h1 (Keep.of_ext (hw.trans h)) (fun _ _ h => h), oR.keep _ _ (fun _ => False) _ _ _ h2 (Keep.of_ext (hw.trans h)) (fun _ _ h => h)⟩ : D g d.S d.T w')) ?_; have hC := hD g d.S d.T)
    try any_goals (refine H_reg ?_)
    try any_goals (first | refine W_fieldG (d := 5) (sq_stepper hC) (Proj.head _ _ _) (by kernel_rfl) rfl rfl rfl ?_ | refine W_fieldC (d := 5) (sq_stepper hC) (off := 0) (by kernel_rfl) rfl rfl rfl ?_)
    try any_goals (refine W_loadO (d := 6) (sq_stepper hC) (by kernel_rfl) rfl rfl rfl (fun w' h => Blk.cell h.2.1 rfl) ?_)
    try any_goals (refine W_move (d := 7) (sq_stepper hC) rfl rfl rfl ?_)
    try any_goals ((refine Sq_ctx (hc1 g hg) rfl rfl (by kernel_rfl) (fun _ => ?_); have hC := hD g (numL numIntS 1 k d.S.length) d.T))
    try any_goals (refine W_assign (d := 1) (sq_stepper hC) rfl rfl rfl ?_)
    try any_goals (first | (refine Sq_nil ?_; try refine G_then ?_) | refine G_then ?_)
    try any_goals (first | (refine H_seq ?_; try refine H_reg ?_) | refine H_reg ?_)
    try any_goals (first | refine W_fieldG (d := 9) (sq_stepper hC) (Proj.tail _ _ (Proj.head _ _ _)) (by kernel_rfl) rfl rfl rfl ?_ | refine W_fieldC (d := 9) (sq_stepper hC) (off := 1) (by kernel_rfl) rfl rfl rfl ?_)
    try any_goals (refine W_loadO (d := 10) (sq_stepper hC) (by kernel_rfl) rfl rfl rfl (fun w' h => Blk.cell h.2.1 rfl) ?_)
    try any_goals (refine W_move (d := 11) (sq_stepper hC) rfl rfl rfl ?_)
    try any_goals ((refine Sq_ctx (hc2 g hg) rfl rfl (by kernel_rfl) (fun _ => ?_); have hC := hD g (numL numIntS 1 k d.S.length) (numR (k + d.S.length) d.T)))
    try any_goals (refine W_assign (d := 1) (sq_stepper hC) rfl rfl rfl ?_)
    try any_goals (first | (refine Sq_nil ?_; try refine G_then ?_) | refine G_then ?_)
    try any_goals (first | (refine H_seq ?_; try refine H_reg ?_) | refine H_reg ?_)
    try any_goals (refine W_move (d := 13) (sq_stepper hC) rfl rfl rfl ?_)
    try any_goals (refine W_assign (d := 4) (sq_stepper hC) rfl rfl rfl ?_)
    try any_goals (first | (refine Sq_nil ?_; try refine G_then ?_) | refine G_then ?_)
    try any_goals (refine H_ret ?_)
    repeat (any_goals (first | refine G_ret_then ?_ | refine G_ret_block ?_))
    all_goals first
      | exact RX1 rfl rfl (fun v w' hc hv => ⟨g, hc, hv⟩)
      | trace_state
  exact (key w [_, .int .i64 k] rfl ⟨rfl, rfl, trivial⟩).mono fun e w' ⟨u, he, g, hd1, hu⟩ => ⟨by rw [he, show u = _ from hu], hd1.1.mono fun b hb => hb.elim (fun h => hS1 b h.1) (fun h => hS2 b h.1), vS, vT, S1', S2', rfl, hd1.2.2.1, hd1.2.2.2, fun b hb => hS1 b hb.1, fun b hb => hS2 b hb.1, fun b hb hb' => hdis b hb.1 hb'.1⟩
theorem hd_DepO (d : Dep) (k : Int) (hk : 0 ≤ k ∧ k ≤ 1000) (hd : DepS d) : CT Try.prog 21 [.inr (uA bDep (numD k d)), .inl (.int .i64 k)] (.inl (.int .i64 (kDep k d))) := by
  have hds := hd.s
  have hdt := hd.t
  have hb := kDep_bd (k := k) hd
  have hI := hd_IntS (e := some 3) k d.S.length ⟨by omega, by omega⟩
  rw [Int.one_mul] at hI
  refine CT_of Try.func21 rfl rfl rfl (fun w => ?_)
  have hC := upC_ext w
  try any_goals (first | (refine H_seq ?_; try refine H_reg ?_) | refine H_reg ?_)
  try any_goals (refine W_boxA (d := 2) (sq_stepper hC) rfl rfl rfl ?_)
  try any_goals (refine W_assign (d := 4) (sq_stepper hC) rfl rfl rfl ?_)
  try any_goals (first | (refine Sq_nil ?_; try refine G_then ?_) | refine G_then ?_)
  try any_goals (first | (refine H_seq ?_; try refine H_reg ?_) | refine H_reg ?_)
  try any_goals (first | refine W_fieldG (d := 5) (sq_stepper hC) (Proj.head _ _ _) (by kernel_rfl) rfl rfl rfl ?_ | refine W_fieldC (d := 5) (sq_stepper hC) (off := 0) (by kernel_rfl) rfl rfl rfl ?_)
  try any_goals (refine W_loadS (d := 6) (sq_stepper hC) (by kernel_rfl) rfl rfl rfl ?_)
  try any_goals (refine W_move (d := 7) (sq_stepper hC) rfl rfl rfl ?_)
  try any_goals (refine W_ct (d := 8) (sq_stepper hC) (hI) rfl rfl rfl (by kernel_rfl) ?_)
  try any_goals (refine W_assign (d := 1) (sq_stepper hC) rfl rfl rfl ?_)
  try any_goals (first | (refine Sq_nil ?_; try refine G_then ?_) | refine G_then ?_)
  try any_goals (refine H_seq ?_)
  try any_goals (first | (refine H_seq ?_; try refine H_reg ?_) | refine H_reg ?_)
  try any_goals (refine W_move (d := 9) (sq_stepper hC) rfl rfl rfl ?_)
  try any_goals (first | refine W_cmp (d := 10) (sq_stepper hC) rfl rfl rfl rfl rfl ?_ | refine W_strcmp (d := 10) (sq_stepper hC) rfl rfl rfl rfl rfl ?_)
  try any_goals (first | (refine Sq_nil ?_; try refine G_then ?_) | refine G_then ?_)
  try any_goals (first | refine H_condT rfl ?_ | refine H_condF rfl ?_ | (refine H_cond _ rfl (fun hq => ?_) (fun hq => ?_) <;> (try simp only [hqs, reduceCtorEq] at hq)))
  try any_goals (first | ((exfalso; omega)) | skip)
  try any_goals (first | ((exfalso; unfold kDep at hb; omega)) | skip)
  try any_goals (first | (refine H_seq ?_; try refine H_reg ?_) | refine H_reg ?_)
  try any_goals (refine W_assign (d := 4) (sq_stepper hC) rfl rfl rfl ?_)
  try any_goals (first | (refine Sq_nil ?_; try refine G_then ?_) | refine G_then ?_)
  try any_goals (refine H_ret ?_)
  repeat (any_goals (first | refine G_ret_then ?_ | refine G_ret_block ?_))
  try any_goals (refine H_skip ?_)
  try any_goals (refine G_then ?_)
  try any_goals (first | (refine H_seq ?_; try refine H_reg ?_) | refine H_reg ?_)
  try any_goals (first | refine W_fieldG (d := 11) (sq_stepper hC) (Proj.tail _ _ (Proj.head _ _ _)) (by kernel_rfl) rfl rfl rfl ?_ | refine W_fieldC (d := 11) (sq_stepper hC) (off := 1) (by kernel_rfl) rfl rfl rfl ?_)
  try any_goals (refine W_loadS (d := 12) (sq_stepper hC) (by kernel_rfl) rfl rfl rfl ?_)
  try any_goals (refine W_move (d := 13) (sq_stepper hC) rfl rfl rfl ?_)
  try any_goals (refine W_ct (d := 14) (sq_stepper hC) (hd_Rows d.T (k + d.S.length) ⟨by omega, by omega, by omega⟩ (fun i hi => Int.le_trans (hd.r i hi) (by decide))) rfl rfl rfl (by kernel_rfl) ?_)
  try any_goals (refine W_assign (d := 1) (sq_stepper hC) rfl rfl rfl ?_)
  try any_goals (first | (refine Sq_nil ?_; try refine G_then ?_) | refine G_then ?_)
  try any_goals (refine H_seq ?_)
  try any_goals (first | (refine H_seq ?_; try refine H_reg ?_) | refine H_reg ?_)
  try any_goals (refine W_move (d := 15) (sq_stepper hC) rfl rfl rfl ?_)
  try any_goals (first | refine W_cmp (d := 16) (sq_stepper hC) rfl rfl rfl rfl rfl ?_ | refine W_strcmp (d := 16) (sq_stepper hC) rfl rfl rfl rfl rfl ?_)
  try any_goals (first | (refine Sq_nil ?_; try refine G_then ?_) | refine G_then ?_)
  try any_goals (first | refine H_condT rfl ?_ | refine H_condF rfl ?_ | (refine H_cond _ rfl (fun hq => ?_) (fun hq => ?_) <;> (try simp only [hqs, reduceCtorEq] at hq)))
  try any_goals (first | ((exfalso; omega)) | skip)
  try any_goals (first | ((exfalso; unfold kDep at hb; omega)) | skip)
  try any_goals (first | (refine H_seq ?_; try refine H_reg ?_) | refine H_reg ?_)
  try any_goals (refine W_assign (d := 4) (sq_stepper hC) rfl rfl rfl ?_)
  try any_goals (first | (refine Sq_nil ?_; try refine G_then ?_) | refine G_then ?_)
  try any_goals (refine H_ret ?_)
  repeat (any_goals (first | refine G_ret_then ?_ | refine G_ret_block ?_))
  try any_goals (refine H_skip ?_)
  try any_goals (refine G_then ?_)
  try any_goals (first | (refine H_seq ?_; try refine H_reg ?_) | refine H_reg ?_)
  try any_goals (refine W_move (d := 17) (sq_stepper hC) rfl rfl rfl ?_)
  try any_goals (refine W_assign (d := 4) (sq_stepper hC) rfl rfl rfl ?_)
  try any_goals (first | (refine Sq_nil ?_; try refine G_then ?_) | refine G_then ?_)
  try any_goals (refine H_ret ?_)
  repeat (any_goals (first | refine G_ret_then ?_ | refine G_ret_block ?_))
  all_goals first
    | exact R1v rfl (fun _ h => h) rfl rfl
    | (exfalso; unfold kDep at hb; omega)
    | (exfalso; omega)
    | trace_state
end Go.Proofs.Ytbipnenkgkebjaa

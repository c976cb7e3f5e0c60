/-
  A region that draws its order and writes in its midst: plain moves that nothing before the writing waits for may come late.
-/
import Derived.Test.YtanlaggnhocjhaaGreatOp
namespace Go.Proofs.YtanlaggnhocjhaaGreat
set_option linter.unusedSimpArgs false
set_option linter.unusedVariables false
open Go.RowKit

def intOp (J : List Nat) : Operand → Bool
  | .tmp t => J.contains t
  | .const (.int .i64 _) => true
  | _ => false
def moveB (J : List Nat) (o : Oper) : Bool := (match o.op with
  | .move _ => true
  | .binOp bo _ x y _ => (match bo with | .add => true | .sub => true | .mul => true | _ => false) && (intOp J x && intOp J y)
  | _ => false) && o.guard.isNone
/-- These slots are known to hold numbers. -/
def IntsK (K : List (Nat × Pr)) : List Nat → Prop
  | [] => True
  | t :: J => (∃ n, lookK K t = some (.inl (.int .i64 n))) ∧ IntsK K J
theorem IntsK.get {K : List (Nat × Pr)} : ∀ {J : List Nat}, IntsK K J → ∀ t ∈ J, ∃ n, lookK K t = some (.inl (.int .i64 n))
  | [], _, t, h => by cases h
  | s :: J, ⟨h1, h2⟩, t, h => by
    rcases List.mem_cons.1 h with rfl | h
    · exact h1
    · exact h2.get t h
theorem IntsK.congr {K K' : List (Nat × Pr)} (hK : ∀ t, lookK K t = lookK K' t) : ∀ {J : List Nat}, IntsK K J → IntsK K' J
  | [], _ => trivial
  | t :: J, ⟨⟨n, h1⟩, h2⟩ => ⟨⟨n, by rw [← hK]; exact h1⟩, h2.congr hK⟩
theorem IntsK.kn {K : List (Nat × Pr)} {J : List Nat} (h : IntsK K J) {x : Operand} (hx : intOp J x = true) : ∃ n, kn K x = some (.inl (.int .i64 n)) := by
  cases x with
  | tmp t => exact h.get t (by simpa [intOp] using hx)
  | const v =>
    unfold intOp at hx
    split at hx
    · rename_i e; cases e
    · rename_i e; injection e with e; subst e; exact ⟨_, rfl⟩
    · cases hx
  | global n => simp [intOp] at hx
  | func f => simp [intOp] at hx
theorem late_run {P : Program} {ops : Array Oper} {K : List (Nat × Pr)} {J : List Nat} {a : Act} {w : World} {o : Oper} (hJ : IntsK K J) (hm : moveB J o = true) (hd : ∃ d, o.dst = some d) (hk : ∀ t ∈ o.looksAt ops, ∀ p, lookK K t = some p → okAt p a t w) :
    ∃ v, ∀ w', (execOp a.eval o).run P w' = .ok (.value v) w' := by
  obtain ⟨dst, op, ty, pos, af, gd⟩ := o
  obtain ⟨d, rfl⟩ := hd
  simp only [moveB, Bool.and_eq_true] at hm
  obtain ⟨h1, _⟩ := hm
  split at h1
  · rename_i o x
    exact ⟨a.eval x, fun w' => by simp [execOp]⟩
  · rename_i o bo t x y t'
    simp only [Bool.and_eq_true] at h1
    obtain ⟨hb, hix, hiy⟩ := h1
    obtain ⟨n, hn⟩ := hJ.kn hix
    obtain ⟨m, hm⟩ := hJ.kn hiy
    have e1 : a.eval x = .int .i64 n := kn_ok (ops := ops) (op := .binOp bo t x y t') (by simp [Op.operands]) hn hk
    have e2 : a.eval y = .int .i64 m := kn_ok (ops := ops) (op := .binOp bo t x y t') (by simp [Op.operands]) hm hk
    clear hk
    generalize a.eval = ρ at *
    cases bo with
    | add => exact ⟨.int .i64 (IntKind.i64.wrap (n + m)), fun w' => by simp [execOp, e1, e2, go_sem, Op.intArith]⟩
    | sub => exact ⟨.int .i64 (IntKind.i64.wrap (n - m)), fun w' => by simp [execOp, e1, e2, go_sem, Op.intArith]⟩
    | mul => exact ⟨.int .i64 (IntKind.i64.wrap (n * m)), fun w' => by simp [execOp, e1, e2, go_sem, Op.intArith]⟩
    | _ => cases hb
  · cases h1
def lateB (J : List Nat) (ops : Array Oper) (m : Nat) : List Nat → Array Bool → Bool
  | [], _ => true
  | i :: Λ, listed => (decide (i < m) && (match ops[i]? with | some o => moveB J o | none => false) && (Region.ready .any ops listed).contains i && Region.free .any ops listed i) && lateB J ops m Λ (listed.setIfInBounds i true)
def sinkL (ops : Array Oper) (n : Nat) (Λ : List Nat) : Bool :=
  (List.range n).all fun i => Λ.contains i || (List.range (n + 1)).any fun j => decide (i < j) && Region.waitsFor .any ops j i
def tailL (J : List Nat) (ops : Array Oper) (m : Nat) (Λ : List Nat) : Bool :=
  decide (m < ops.size) && sinkL ops m Λ && Region.chainB .any ops m && Region.seqB .any ops (ops.size - m) m (headArr m ops.size) && Region.noSelect ops && lateB J ops m Λ (Array.replicate ops.size false)

theorem tail_waitsL {ops : Array Oper} {n : Nat} {Λ : List Nat} {listed : Array Bool} (hs : sinkL ops n Λ = true) (hc : Region.chainB .any ops n = true) (hn : n < ops.size) (inv : HeadInv .any ops n listed) (hΛ : ∀ i ∈ Λ, listed.getD i true = true) :
    ∀ (d i : Nat), n - i = d → i < n → listed.getD i true = false → ∀ t, n ≤ t → t ∉ Region.ready .any ops listed := by
  intro d
  induction d using Nat.strongRecOn with
  | _ d ih =>
    intro i hd hi hun t ht hr
    obtain ⟨_, ot, hot, hall⟩ := mem_ready.1 hr
    have htlt : t < ops.size := (Array.getElem?_eq_some_iff.1 hot).1
    by_cases htn : t = n
    · subst htn
      have h1 := List.all_eq_true.1 hs i (List.mem_range.2 hi)
      rw [Bool.or_eq_true] at h1
      rcases h1 with h1 | h1
      · have := hΛ i (by simpa using h1)
        rw [hun] at this
        cases this
      obtain ⟨j, hj, hj2⟩ := List.any_eq_true.1 h1
      simp only [Bool.and_eq_true, decide_eq_true_eq] at hj2
      obtain ⟨oj, hoj, e, he, hb, hon⟩ := Region.waitsFor_spec hj2.2
      have hjle : j ≤ t := by have := List.mem_range.1 hj; omega
      by_cases hjt : j = t
      · subst hjt
        have : oj = ot := Option.some.inj (hoj.symm.trans hot)
        subst this
        have h2 := hall e he hb
        rw [hon, getD_both hun] at h2
        cases h2
      · cases hl : listed.getD j false with
        | true =>
          have h2 := inv.closed j oj hoj hl e he hb
          rw [hon, getD_both hun] at h2
          cases h2
        | false =>
          have hjs : j < listed.size := by rw [inv.size]; omega
          exact ih (t - j) (by omega) j rfl (by omega) (getD_in hjs hl) t (Nat.le_refl _) hr
    · have h1 := List.all_eq_true.1 hc t (List.mem_range.2 htlt)
      simp only [Bool.or_eq_true, decide_eq_true_eq] at h1
      rcases h1 with h1 | h1
      · omega
      · obtain ⟨o', ho', e, he, hb, hon⟩ := Region.waitsFor_spec h1
        have : o' = ot := Option.some.inj (ho'.symm.trans hot)
        subst this
        have h2 := hall e he hb
        rw [hon, getD_both (inv.tail (t - 1) (by omega) (by omega))] at h2
        cases h2
theorem getD_set_true' {listed : Array Bool} {i j : Nat} (h : listed.getD j true = true) : (listed.setIfInBounds i true).getD j true = true := by
  by_cases e : i = j
  · subst e
    by_cases hi : i < listed.size
    · simp [hi]
    · simp [hi]
  · rw [getD_set_ne true e]
    exact h

section
variable {P : Program} {ops : Array Oper} {C : World → Prop} {Q : Exit → Act → World → Prop} {N : Nat} {K : List (Nat × Pr)} {J : List Nat}

theorem Inv.looksF {m sz : Nat} {K0 : List (Nat × Pr)} {Rs : List Pr} {done : Nat → Prop} {a : Act} {w : World} {i : Nat} {o : Oper} {l : List Oper} (h : Inv ops C K0 m sz Rs done a w) (hl : ∀ j, j < m → l[j]? = ops[j]?) (hlen : l.length = m)
    (hRl : Rs.length = l.length) (hH : HeadAt .any ops m sz i o) (hall : ∀ j oj, j < m → ops[j]? = some oj → HeadAt .any ops m sz j oj)
    (hdone : ∀ j, Region.waitsFor .any ops i j = true → done j) :
    ∀ t ∈ o.looksAt ops, ∀ p, lookK ((zipK l Rs).reverse ++ K0) t = some p → okAt p a t w := by
  intro t ht p hp
  obtain ⟨hts, hlk⟩ := hH.looks t ht
  have htake : (zipK l Rs).take m = zipK l Rs := List.take_of_length_le (by simp [zipK]; omega)
  rw [lookK_append] at hp
  cases hk : lookK (zipK l Rs).reverse t with
  | some q =>
    rw [hk] at hp
    have : q = p := by simpa using hp
    subst this
    have hm' : (t, q) ∈ (zipK l Rs).take m := by
      rw [htake]
      exact List.mem_reverse.1 (lookK_some hk)
    obtain ⟨j, oj, hj, hoj, hx, hR⟩ := dst_zip hRl hm'
    have hojm : ops[j]? = some oj := by rw [← hl j hj]; exact hoj
    obtain ⟨d, hd, _⟩ := (hall j oj hj hojm).dst
    have hdt : oj.dst = some t := by rw [hd]; simp only [hd, Option.getD_some] at hx; rw [hx]
    exact h.has j oj t q hj (hdone j (hlk j oj hj hojm hdt).2) hojm hdt hR
  | none =>
    rw [hk] at hp
    refine h.rest t (fun j oj hj hoj hd => ?_) p (by simpa using hp)
    have hjl : j < l.length := by omega
    obtain ⟨R, hR⟩ := mem_zip (i := m) (l := l) hRl hj (by rw [hl j hj]; exact hoj) hd
    rw [htake] at hR
    exact lookK_none hk _ hR rfl

theorem region_drawL {id : Nat} {l tail : List Oper} {K0 : List (Nat × Pr)} (Λ : List Nat) (hm : P.follows .mixedOrders = true) (hB : headB .any (l ++ tail).toArray l.length N = true) (hT : tailL J (l ++ tail).toArray l.length Λ = true)
    (hQ : ∀ c a w d v, Q (.panic c) (a.put (some d) v) w → Q (.panic c) a w)
    (hC : UpC C) (h : walk P (l ++ tail).toArray C (fun K => IntsK K J ∧ Sq P (l ++ tail).toArray N C Q K tail) K0 l) {a0 : Act} {w : World} (hst : St N K0 C a0 w) : (Code.region id (l ++ tail).toArray true).wp P Q a0 w := by
  generalize hops' : (l ++ tail).toArray = ops at *
  have hops : ops.toList = l ++ tail := by rw [← hops']
  clear hops'
  refine wp_region_any hm ?_
  unfold walk at h
  obtain ⟨Rs, hRl, ⟨hJ, hF⟩, hobs⟩ := h
  have hsize : ops.size = l.length + tail.length := by
    rw [← Array.length_toList, hops, List.length_append]
  have hl : ∀ j, j < l.length → l[j]? = ops[j]? := fun j hj => by
    rw [← Array.getElem?_toList, hops, List.getElem?_append_left hj]
  have hall := all_head hB
  simp only [tailL, Bool.and_eq_true, decide_eq_true_eq] at hT
  obtain ⟨⟨⟨⟨⟨hlt, hs⟩, hc⟩, hseq⟩, hsel⟩, hlate⟩ := hT
  have stepI : ∀ (i : Nat) (oi : Oper) (R : Pr) (v : Value) (listed : Array Bool) (a : Act) (w w' : World), Inv ops C K0 l.length N Rs (fun j => listed.getD j false = true) a w → i < l.length → ops[i]? = some oi → Rs[i]? = some R → Ext w w' → R.ok v w' →
      Inv ops C K0 l.length N Rs (fun j => (listed.setIfInBounds i true).getD j false = true) (a.put oi.dst v) w' := fun i oi R v listed a w w' hI hil hoi hR he hv => by
    have hH := hall i oi hil hoi
    obtain ⟨d, hd, hdl, _⟩ := hH.dst
    have hstep := hI.step hC he hil hoi hd hdl hR hv (distinct hB hil hoi hd)
    refine ⟨hstep.cls, hstep.size, hstep.defers, hstep.rest, fun j oj dj Rj hj hdone hoj hdj hRj => hstep.has j oj dj Rj hj ?_ hoj hdj hRj⟩
    by_cases e : j = i
    · exact .inr e
    · rw [getD_set_ne false (Ne.symm e)] at hdone
      exact .inl hdone
  have key : ∀ (f : Nat) (listed : Array Bool) (a : Act) (w : World), HeadInv .any ops l.length listed → (∀ i ∈ Λ, listed.getD i true = true) → unl listed l.length = f → Inv ops C K0 l.length N Rs (fun j => listed.getD j false = true) a w →
      wpAny P .any ops Q (f + tail.length) listed a w := by
    intro f
    induction f with
    | zero =>
      intro listed a w hinv _ hu hI
      have hlist := unl_zero _ hu
      have hlisted : listed = headArr l.length ops.size := by
        apply Array.ext_getElem?
        intro i
        by_cases hi : i < ops.size
        · by_cases hil : i < l.length
          · have h1 := hlist i hil
            have : i < listed.size := by rw [hinv.size]; exact hi
            simp [this] at h1
            simp [headArr, List.getElem?_append, hil, this, h1]
          · have h1 := hinv.tail i (by omega) hi
            have : i < listed.size := by rw [hinv.size]; exact hi
            simp [this] at h1
            simp [headArr, List.getElem?_append, hil, this, h1, List.getElem?_replicate]
            omega
        · rw [Array.getElem?_eq_none (by rw [hinv.size]; omega), Array.getElem?_eq_none (by simp [headArr]; omega)]
      rw [hlisted, Nat.zero_add]
      refine wpAny_of_seq tail l.length _ a w (fun j => ?_) (by rw [← show ops.size - l.length = tail.length by omega]; exact hseq) ?_
      · rw [← Array.getElem?_toList, hops, List.getElem?_append_right (by omega)]
        simp
      · have hF' := hF
        unfold Sq at hF'
        exact hF' a w (hI.fin_ hl rfl hRl hall (fun j hj => getD_true_of_false (by rw [hinv.size]; omega) (hlist j hj)))
    | succ f ih =>
      intro listed a w hinv hΛ hu hI
      obtain ⟨i0, hi0, hun0, hbefore⟩ := unl_pos l.length (listed := listed) (by omega)
      have hready : i0 ∈ Region.ready .any ops listed := by
        obtain ⟨o, ho, hH⟩ := headB_spec hB hi0
        exact mem_ready.2 ⟨hun0, o, ho, fun e he hb => by
          have hlt := hH.back e he hb
          exact getD_true_of_false (by rw [hinv.size]; omega) (hbefore e.on hlt)⟩
      rw [show f + 1 + tail.length = (f + tail.length) + 1 by omega]
      refine ⟨fun h0 => (by rw [h0] at hready; cases hready), fun i hi => ?_⟩
      have hil : i < l.length := by
        rcases Nat.lt_or_ge i l.length with h | h
        · exact h
        · exact absurd hi (tail_waitsL hs hc hlt hinv hΛ _ i0 rfl hi0 hun0 i h)
      obtain ⟨hiun, oi, hoi, hwaits⟩ := mem_ready.1 hi
      have hH := hall i oi hil hoi
      obtain ⟨R, hR, hob⟩ := hobs i oi (by rw [hl i hil]; exact hoi)
      unfold wpOp
      simp only [hoi]
      refine ob_step hob hI.cls (hI.looks hl rfl hRl hil hH hall fun j hj => ?_) fun v w' he hv => ?_
      · obtain ⟨o', ho', e, hem, hb, hon⟩ := Region.waitsFor_spec hj
        have : o' = oi := Option.some.inj (ho'.symm.trans hoi)
        subst this
        rw [← hon]
        exact hwaits e hem hb
      · refine ih _ _ _ (hinv.set hi hil) (fun k hk => getD_set_true' (hΛ k hk)) ?_ (stepI i oi R v listed a w w' hI hil hoi hR he hv)
        have := unl_set hiun l.length
        rw [if_pos hil] at this
        omega
  have first : ∀ (L D : List Nat) (listed : Array Bool) (a : Act) (w : World), (∀ i ∈ Λ, i ∈ D ∨ i ∈ L) → (∀ i ∈ D, listed.getD i true = true) → HeadInv .any ops l.length listed → Inv ops C K0 l.length N Rs (fun j => listed.getD j false = true) a w →
      lateB J ops l.length L listed = true → wpAny P .any ops Q (unl listed l.length + tail.length) listed a w := by
    intro L
    induction L with
    | nil =>
      intro D listed a w hΛ hD hinv hI _
      exact key _ listed a w hinv (fun i hi => hD i ((hΛ i hi).resolve_right (by simp))) rfl hI
    | cons i L ih =>
      intro D listed a w hΛ hD hinv hI hb
      simp only [lateB, Bool.and_eq_true, decide_eq_true_eq] at hb
      obtain ⟨⟨⟨⟨hil, hmv⟩, hrd⟩, hfr⟩, hrest⟩ := hb
      have hrd' : i ∈ Region.ready .any ops listed := by simpa using hrd
      obtain ⟨hiun, oi, hoi, hwaits⟩ := mem_ready.1 hrd'
      rw [hoi] at hmv
      have hgd : oi.guard.isNone = true := by simp only [moveB, Bool.and_eq_true] at hmv; exact hmv.2
      have hH := hall i oi hil hoi
      obtain ⟨d, hd, _, _⟩ := hH.dst
      obtain ⟨R, hR, hob⟩ := hobs i oi (by rw [hl i hil]; exact hoi)
      have hdn : ∀ j, Region.waitsFor .any ops i j = true → listed.getD j false = true := fun j hj => by
        obtain ⟨o', ho', e, hem, hb, hon⟩ := Region.waitsFor_spec hj
        have : o' = oi := Option.some.inj (ho'.symm.trans hoi)
        subst this
        rw [← hon]
        exact hwaits e hem hb
      have hlooks := hI.looks hl rfl hRl hil hH hall hdn
      have hg : oi.guard = none := by simpa using hgd
      have hw : Region.wanted oi (yielded ops a.tmps) = true := by simp [Region.wanted, hg]
      have hgv := hob a w hI.cls hlooks
      rw [if_pos hw] at hgv
      obtain ⟨v, hrun⟩ := late_run (P := P) hJ hmv ⟨d, hd⟩ (hI.looksF hl rfl hRl hH hall hdn)
      unfold gives at hgv
      rw [hrun w] at hgv
      simp only at hgv
      have hu := unl_set hiun l.length
      rw [if_pos hil] at hu
      rw [show unl listed l.length + tail.length = (unl (listed.setIfInBounds i true) l.length + tail.length) + 1 by omega]
      refine wpAny_take hoi hsel hfr hrd (fun c a' w' hq => by rw [hd] at hq; exact hQ _ _ _ _ _ hq) (.inl ⟨hw, hrun⟩) (ih (i :: D) _ _ _ (fun k hk => ?_) (fun k hk => ?_) (hinv.set hrd' hil) (stepI i oi R _ listed a w w hI hil hoi hR hgv.1 hgv.2) hrest)
      · rcases hΛ k hk with h | h
        · exact .inl (List.mem_cons_of_mem _ h)
        · rcases List.mem_cons.1 h with h | h
          · exact .inl (by rw [h]; exact List.mem_cons_self)
          · exact .inr h
      · rcases List.mem_cons.1 hk with rfl | hk
        · have hisz : k < listed.size := by rw [hinv.size]; omega
          simp [hisz]
        · exact getD_set_true' (hD k hk)
  have hdrew : Ext w w.drew := (Ext.refl w).drew
  have hstart := first Λ [] (Array.replicate ops.size false) a0 w.drew (fun i hi => .inr hi) (fun i hi => by cases hi)
    ⟨by simp, (fun j oj _ h => by rw [getD_replicate_false] at h; cases h), (fun t _ ht => by simp [ht])⟩
    ⟨hC _ _ hst.cls hdrew, hst.size, hst.defers, (fun t _ p hp => let ⟨v, hv, hk⟩ := hst.slots t p hp; ⟨v, hv, Pr.up_ok hdrew hk⟩), (fun j oj dj Rj _ h => by rw [getD_replicate_false] at h; cases h)⟩ hlate
  have hunl : ∀ k, k ≤ ops.size → unl (Array.replicate ops.size false) k = k := by
    intro k
    induction k with
    | zero => intro _; rfl
    | succ k ih =>
      intro hk
      simp only [unl]
      rw [ih (by omega)]
      have : (Array.replicate ops.size false).getD k true = false := by simp [show k < ops.size by omega]
      rw [this]
      simp
  rw [hunl l.length (by omega), ← hsize] at hstart
  exact hstart

def WkL (P : Program) (ops : Array Oper) (N : Nat) (C : World → Prop) (Q : Exit → Act → World → Prop) (J Λ : List Nat) (K : List (Nat × Pr)) (l : List Oper) : Prop :=
  ∃ l1 l2, l = l1 ++ l2 ∧ walk P ops C (fun K => IntsK K J ∧ Sq P ops N C Q K l2) K l1 ∧ headB .any ops (ops.size - l2.length) N = true ∧ tailL J ops (ops.size - l2.length) Λ = true
theorem fin_congrL {l : List Oper} : ∀ K K', (∀ t, lookK K t = lookK K' t) → (IntsK K J ∧ Sq P ops N C Q K l) → (IntsK K' J ∧ Sq P ops N C Q K' l) := fun K K' hK h => ⟨h.1.congr hK, sq_fin_congr K K' hK h.2⟩
theorem wkL_stepper {Λ : List Nat} : Stepper P ops C N (WkL P ops N C Q J Λ) where
  step := by
    intro K o rest d R hd hN hob ⟨l1, l2, hl, hw, h1, h2⟩
    exact ⟨o :: l1, l2, by rw [hl]; rfl, (walk_stepper fin_congrL).step hd hN hob hw, h1, h2⟩
  congr := by
    intro K K' l hK ⟨l1, l2, hl, hw, h1, h2⟩
    exact ⟨l1, l2, hl, (walk_stepper (N := N) fin_congrL).congr hK hw, h1, h2⟩
theorem H_drawL (J Λ : List Nat) {id : Nat} {l : List Oper} (hm : P.follows .mixedOrders = true) (hC : UpC C) (hQ : ∀ c a w d v, Q (.panic c) (Act.put a (some d) v) w → Q (.panic c) a w) (h : WkL P l.toArray N C Q J Λ K l) : Hc P N K C (.region id l.toArray true) Q := .of fun a w hst => by
  obtain ⟨l1, l2, hl, hw, h1, h2⟩ := h
  subst hl
  have e : (l1 ++ l2).toArray.size - l2.length = l1.length := by simp
  rw [e] at h1 h2
  exact region_drawL Λ hm h1 h2 hQ hC hw hst
theorem WkL_none {Λ : List Nat} {rest : List Oper} {op : Op} {ty : TypeId} {pos : String} {af : Array Edge} {g : Option (Nat × Bool)} (h1 : headB .any ops (ops.size - (rest.length + 1)) N = true) (h2 : tailL J ops (ops.size - (rest.length + 1)) Λ = true) (hJ : IntsK K J) (h : Sq P ops N C Q K (⟨none, op, ty, pos, af, g⟩ :: rest)) :
    WkL P ops N C Q J Λ K (⟨none, op, ty, pos, af, g⟩ :: rest) := ⟨[], _, rfl, walk_nil ⟨hJ, h⟩, h1, h2⟩
end
attribute [irreducible] WkL
end Go.Proofs.YtanlaggnhocjhaaGreat

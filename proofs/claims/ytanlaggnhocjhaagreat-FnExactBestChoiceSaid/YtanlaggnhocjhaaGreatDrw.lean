/-
  A region that draws its order: plain operations that may come at any time, taken first; others that only make new memory, in whatever order; the rest, which wait for these, in a row.
-/
import Derived.Test.YtanlaggnhocjhaaGreatSlc
import Derived.Test.YtanlaggnhocjhaaGreatLate
namespace Go.Proofs.YtanlaggnhocjhaaGreat
set_option linter.unusedSimpArgs false
set_option linter.unusedVariables false
open Go.RowKit

def headTB (ops : Array Oper) (sz : Nat) (Λ H : List Nat) : Bool :=
  (List.range H.length).all fun p => match H[p]?.bind (ops[·]?) with
    | none => false
    | some o =>
      (match o.dst with | none => false | some d => decide (d < sz) && (H.take p).all fun j => match ops[j]? with | none => true | some oj => oj.dst != some d) &&
      (o.after.toList.all fun e => !Region.binds .any e || Λ.contains e.on || (H.take p).contains e.on) &&
      (o.looksAt ops).all fun t => decide (t < sz) && ((H.drop p).all fun j => match ops[j]? with | none => true | some oj => oj.dst != some t) &&
        (H.take p).all fun j => match ops[j]? with | none => true | some oj => oj.dst != some t || Region.waitsFor .any ops ((H[p]?).getD 0) j
def sinkTB (ops : Array Oper) (H : List Nat) (t0 : Nat) : Bool :=
  (List.range H.length).all fun p => Region.waitsFor .any ops t0 ((H[p]?).getD 0) || (H.drop (p + 1)).any fun j => Region.waitsFor .any ops j ((H[p]?).getD 0)
def chainTB (ops : Array Oper) : List Nat → Bool
  | a :: b :: T => Region.waitsFor .any ops b a && chainTB ops (b :: T)
  | _ => true
def seqTB (ops : Array Oper) : List Nat → Array Bool → Bool
  | [], listed => (Region.ready .any ops listed).isEmpty
  | i :: T, listed => decide (Region.ready .any ops listed = [i]) && seqTB ops T (listed.setIfInBounds i true)
def maskA (n : Nat) (L : List Nat) : Array Bool := ((List.range n).map fun i => L.contains i).toArray
def lateTB (ops : Array Oper) : List Nat → Array Bool → Bool
  | [], _ => true
  | i :: Λ, listed => ((match ops[i]? with | some o => o.guard.isNone | none => false) && (Region.ready .any ops listed).contains i && Region.free .any ops listed i) && lateTB ops Λ (listed.setIfInBounds i true)
def nodupB : List Nat → Bool
  | [] => true
  | x :: l => !l.contains x && nodupB l
def drawB (ops : Array Oper) (sz : Nat) (Λ H T : List Nat) : Bool :=
  Region.noSelect ops && lateTB ops Λ (Array.replicate ops.size false) && headTB ops sz Λ H && (match T with | [] => true | t0 :: _ => sinkTB ops H t0) && chainTB ops T && seqTB ops T (maskA ops.size (Λ ++ H)) &&
  ((List.range ops.size).all fun i => Λ.contains i || H.contains i || T.contains i) && nodupB (Λ ++ (H ++ T)) && (Λ ++ (H ++ T)).all (fun i => decide (i < ops.size))

theorem nodupB_spec : ∀ {l : List Nat}, nodupB l = true → l.Nodup
  | [], _ => List.nodup_nil
  | x :: l, h => by
    simp only [nodupB, Bool.and_eq_true, Bool.not_eq_true'] at h
    exact List.nodup_cons.2 ⟨by simpa using h.1, nodupB_spec h.2⟩

section
variable {P : Program} {ops : Array Oper} {C : World → Prop} {Q : Exit → Act → World → Prop} {N : Nat} {K : List (Nat × Pr)}
/-- What is asked of an operation that comes first: it yields a value that the world does not tell. -/
def PureOb (P : Program) (ops : Array Oper) (C : World → Prop) (K : List (Nat × Pr)) (o : Oper) (R : Pr) : Prop :=
  ∀ (a : Act) (w : World), C w → (∀ t ∈ o.looksAt ops, ∀ p, lookK K t = some p → okAt p a t w) → ∃ v, (∀ w', (execOp a.eval o).run P w' = .ok (.value v) w') ∧ R.ok v w
def LateW (P : Program) (ops : Array Oper) (N : Nat) (C : World → Prop) (Fin : List (Nat × Pr) → Prop) : List (Nat × Pr) → List Oper → Prop
  | K, [] => Fin K
  | K, o :: l => ∃ d R, o.dst = some d ∧ d < N ∧ PureOb P ops C K o R ∧ LateW P ops N C Fin ((d, R) :: K) l

structure HeadT (ops : Array Oper) (sz : Nat) (Λ H : List Nat) (p i : Nat) (o : Oper) : Prop where
  dst : ∃ d, o.dst = some d ∧ d < sz ∧ ∀ q j oj, q < p → H[q]? = some j → ops[j]? = some oj → oj.dst ≠ some d
  back : ∀ e ∈ o.after, Region.binds .any e = true → e.on ∈ Λ ∨ ∃ q, q < p ∧ H[q]? = some e.on
  looks : ∀ t ∈ o.looksAt ops, t < sz ∧ ∀ q j oj, H[q]? = some j → ops[j]? = some oj → oj.dst = some t → q < p ∧ Region.waitsFor .any ops i j = true
theorem mem_take_get {H : List Nat} {p q j : Nat} (hq : q < p) (h : H[q]? = some j) : j ∈ H.take p := List.mem_of_getElem? (i := q) (by rw [List.getElem?_take, if_pos hq]; exact h)
theorem mem_drop_get {H : List Nat} {p q j : Nat} (hq : p ≤ q) (h : H[q]? = some j) : j ∈ H.drop p := List.mem_of_getElem? (i := q - p) (by rw [List.getElem?_drop, show p + (q - p) = q by omega]; exact h)
theorem get_of_take {H : List Nat} {p j : Nat} (h : j ∈ H.take p) : ∃ q, q < p ∧ H[q]? = some j := by
  obtain ⟨q, hq⟩ := List.mem_iff_getElem?.1 h
  rw [List.getElem?_take] at hq
  split at hq
  · exact ⟨q, by assumption, hq⟩
  · cases hq
theorem get_of_drop {H : List Nat} {p j : Nat} (h : j ∈ H.drop p) : ∃ q, p ≤ q ∧ H[q]? = some j := by
  obtain ⟨q, hq⟩ := List.mem_iff_getElem?.1 h
  rw [List.getElem?_drop] at hq
  exact ⟨p + q, by omega, hq⟩
theorem headTB_spec {sz : Nat} {Λ H : List Nat} (h : headTB ops sz Λ H = true) {p i : Nat} (hp : H[p]? = some i) : ∃ o, ops[i]? = some o ∧ HeadT ops sz Λ H p i o := by
  have hlt : p < H.length := (List.getElem?_eq_some_iff.1 hp).1
  have h1 := List.all_eq_true.1 h p (List.mem_range.2 hlt)
  rw [hp] at h1
  simp only [Option.bind_some, Option.getD_some] at h1
  cases ho : ops[i]? with
  | none => rw [ho] at h1; cases h1
  | some o =>
    rw [ho] at h1
    simp only [Bool.and_eq_true] at h1
    obtain ⟨⟨h2, h3⟩, h4⟩ := h1
    refine ⟨o, rfl, ?_, fun e he hb => ?_, fun t ht => ?_⟩
    · cases hd : o.dst with
      | none => rw [hd] at h2; cases h2
      | some d =>
        rw [hd] at h2
        simp only [Bool.and_eq_true, decide_eq_true_eq] at h2
        refine ⟨d, rfl, h2.1, fun q j oj hq hj hoj => ?_⟩
        have := List.all_eq_true.1 h2.2 j (mem_take_get hq hj)
        rw [hoj] at this
        simpa using this
    · have := List.all_eq_true.1 h3 e (Array.mem_toList_iff.2 he)
      simp only [hb, Bool.not_true, Bool.false_or, Bool.or_eq_true] at this
      rcases this with h | h
      · exact .inl (by simpa using h)
      · exact .inr (get_of_take (by simpa using h))
    · have := List.all_eq_true.1 h4 t ht
      simp only [Bool.and_eq_true, decide_eq_true_eq] at this
      refine ⟨this.1.1, fun q j oj hj hoj hd => ?_⟩
      rcases Nat.lt_or_ge q p with hq | hq
      · have h5 := List.all_eq_true.1 this.2 j (mem_take_get hq hj)
        rw [hoj] at h5
        exact ⟨hq, by simpa [hd] using h5⟩
      · have h5 := List.all_eq_true.1 this.1.2 j (mem_drop_get hq hj)
        rw [hoj] at h5
        simp [hd] at h5

structure InvT (ops : Array Oper) (Λ H T : List Nat) (listed : Array Bool) : Prop where
  size : listed.size = ops.size
  closed : ∀ j oj, ops[j]? = some oj → listed.getD j false = true → ∀ e ∈ oj.after, Region.binds .any e = true → listed.getD e.on false = true
  late : ∀ i ∈ Λ, listed.getD i false = true
  tail : ∀ t ∈ T, listed.getD t true = false
def cntU (listed : Array Bool) (H : List Nat) : Nat := (H.filter fun i => !listed.getD i true).length
theorem cntU_set {listed : Array Bool} {i : Nat} (hi : listed.getD i true = false) : ∀ {H : List Nat}, H.Nodup → cntU (listed.setIfInBounds i true) H + (if i ∈ H then 1 else 0) = cntU listed H
  | [], _ => by simp [cntU]
  | x :: H, hn => by
    obtain ⟨hx, hn⟩ := List.nodup_cons.1 hn
    have ih := cntU_set hi hn
    have hsz : i < listed.size := by
      rcases Nat.lt_or_ge i listed.size with h | h
      · exact h
      · simp [Array.getElem?_eq_none h] at hi
    simp only [cntU, List.filter_cons] at ih ⊢
    by_cases e : i = x
    · subst e
      have h1 : (listed.setIfInBounds i true).getD i true = true := by simp [Array.getElem?_setIfInBounds, hsz]
      simp only [hi, h1, hx, List.mem_cons, true_or, if_true, if_false, Bool.not_true, Bool.not_false, Bool.false_eq_true] at ih ⊢
      simp at ih ⊢
      omega
    · rw [getD_set_ne true e]
      have : (i ∈ x :: H) = (i ∈ H) := by simp [e]
      simp only [this]
      split <;> simp at ih ⊢ <;> omega
theorem cntU_zero {listed : Array Bool} {H : List Nat} (h : cntU listed H = 0) : ∀ i ∈ H, listed.getD i true = true := fun i hi => by
  have := List.length_eq_zero_iff.1 h
  cases hb : listed.getD i true with
  | true => rfl
  | false =>
    have hm : i ∈ H.filter fun i => !listed.getD i true := List.mem_filter.2 ⟨hi, by rw [hb]; rfl⟩
    rw [this] at hm
    cases hm
theorem cntU_pos {listed : Array Bool} : ∀ {H : List Nat}, 0 < cntU listed H → ∃ p i : Nat, H[p]? = some i ∧ listed.getD i true = false ∧ ∀ q j, q < p → H[q]? = some j → listed.getD j true = true
  | [], h => by simp [cntU] at h
  | x :: H, h => by
    cases hb : listed.getD x true with
    | false => exact ⟨0, x, rfl, hb, fun q j hq => by omega⟩
    | true =>
      have h' : 0 < cntU listed H := by
        unfold cntU at h ⊢
        rw [List.filter_cons, hb] at h
        exact h
      obtain ⟨p, i, h1, h2, h3⟩ := cntU_pos h'
      refine ⟨p + 1, i, by simpa using h1, h2, fun q j hq hj => ?_⟩
      cases q with
      | zero => simp at hj; subst hj; exact hb
      | succ q => exact h3 q j (by omega) (by simpa using hj)
theorem getD_t_f {listed : Array Bool} {i n : Nat} (hs : listed.size = n) (hi : i < n) (h : listed.getD i true = true) : listed.getD i false = true := by
  have : i < listed.size := by omega
  simp [this] at h ⊢
  exact h
/-- As long as one of the head waits, nothing of the rest is ready. -/
theorem tail_waitsT {Λ H T : List Nat} {listed : Array Bool} {t0 : Nat} {T' : List Nat} (hT : T = t0 :: T') (hs : sinkTB ops H t0 = true) (hc : chainTB ops T = true) (inv : InvT ops Λ H T listed) (hlt : ∀ i ∈ H, i < ops.size) :
    ∀ (d p i : Nat), H.length - p = d → H[p]? = some i → listed.getD i true = false → ∀ t ∈ T, t ∉ Region.ready .any ops listed := by
  intro d
  induction d using Nat.strongRecOn with
  | _ d ih =>
    intro p i hd hp hun t ht hr
    have hpl : p < H.length := (List.getElem?_eq_some_iff.1 hp).1
    obtain ⟨_, ot, hot, hall⟩ := mem_ready.1 hr
    have hwait : ∀ j, Region.waitsFor .any ops t j = true → listed.getD j false = true := fun j hj => by
      obtain ⟨o', ho', e, he, hb, hon⟩ := Region.waitsFor_spec hj
      have : o' = ot := Option.some.inj (ho'.symm.trans hot)
      subst this
      rw [← hon]
      exact hall e he hb
    by_cases htn : t = t0
    · subst htn
      have h1 := List.all_eq_true.1 hs p (List.mem_range.2 hpl)
      rw [hp, Option.getD_some, Bool.or_eq_true] at h1
      rcases h1 with h1 | h1
      · have := hwait i h1
        rw [getD_both hun] at this
        cases this
      · obtain ⟨j, hj, hj2⟩ := List.any_eq_true.1 h1
        obtain ⟨q, hq, hjq⟩ := get_of_drop hj
        cases hl : listed.getD j false with
        | true =>
          obtain ⟨oj, hoj, e, he, hb, hon⟩ := Region.waitsFor_spec hj2
          have h2 := inv.closed j oj hoj hl e he hb
          rw [hon, getD_both hun] at h2
          cases h2
        | false =>
          have hjs : j < listed.size := by rw [inv.size]; exact hlt j (List.mem_of_getElem? hjq)
          exact ih (H.length - q) (by omega) q j rfl hjq (getD_in hjs hl) t ht hr
    · have key : ∀ (T : List Nat), chainTB ops T = true → (∀ x ∈ T, listed.getD x true = false) → ∀ t0 T', T = t0 :: T' → t ∈ T → t ≠ t0 → False := by
        intro T
        induction T with
        | nil => intro _ _ _ _ h; cases h
        | cons a T iht =>
          intro hc hun t0 T' hT ht hne
          injection hT with h1 h2
          subst h1 h2
          cases T with
          | nil => simp at ht; exact hne ht
          | cons b T =>
            simp only [chainTB, Bool.and_eq_true] at hc
            by_cases e : t = b
            · subst e
              have h3 := hwait a hc.1
              rw [getD_both (hun a (by simp))] at h3
              cases h3
            · exact iht hc.2 (fun x hx => hun x (List.mem_cons_of_mem _ hx)) b T rfl ((List.mem_cons.1 ht).resolve_left hne) e
      exact key T hc inv.tail t0 T' hT ht htn
theorem wpAny_seqT : ∀ (T : List Nat) (tl : List Oper) (listed : Array Bool) (a : Act) (w : World), tl.map some = T.map (ops[·]?) → seqTB ops T listed = true → wpList P ops Q tl a w → wpAny P .any ops Q T.length listed a w
  | [], tl, _, _, _, ht, hB, h => by
    have : tl = [] := by simpa using ht
    subst this
    exact ⟨by simpa [seqTB] using hB, h⟩
  | i :: T, [], _, _, _, ht, _, _ => by simp at ht
  | i :: T, o :: tl, listed, a, w, ht, hB, h => by
    simp only [List.map_cons, List.cons.injEq] at ht
    simp only [seqTB, Bool.and_eq_true, decide_eq_true_eq] at hB
    refine ⟨fun h1 => (by rw [hB.1] at h1; cases h1), fun j hj => ?_⟩
    rw [hB.1] at hj
    have hji : j = i := by simpa using hj
    subst hji
    have hw : wpOp P ops Q j (wpList P ops Q tl) a w := by unfold wpOp; simp only [← ht.1]; exact h
    exact wpOp_mono (fun a' w' h' => wpAny_seqT T tl _ a' w' ht.2 hB.2 h') hw
theorem map_get {H : List Nat} {hd : List Oper} (h : hd.map some = H.map (ops[·]?)) : hd.length = H.length ∧ (∀ (q i : Nat) (o : Oper), H[q]? = some i → ops[i]? = some o → hd[q]? = some o) ∧ ∀ (q : Nat) (o : Oper), hd[q]? = some o → ∃ i : Nat, H[q]? = some i ∧ ops[i]? = some o := by
  have hl : hd.length = H.length := by simpa using congrArg List.length h
  have hq : ∀ q : Nat, (hd[q]?).map some = (H[q]?).map (ops[·]?) := fun q => by rw [← List.getElem?_map, ← List.getElem?_map, h]
  refine ⟨hl, fun q i o h1 h2 => ?_, fun q o h1 => ?_⟩
  · have := hq q
    rw [h1, Option.map_some, h2] at this
    cases hx : hd[q]? with
    | none => rw [hx] at this; cases this
    | some o' => rw [hx] at this; simpa using this
  · have := hq q
    rw [h1, Option.map_some] at this
    cases hx : H[q]? with
    | none => rw [hx] at this; cases this
    | some i => rw [hx, Option.map_some] at this; exact ⟨i, rfl, (Option.some.inj this).symm⟩
theorem region_drawT {id : Nat} {K0 : List (Nat × Pr)} (Λ H T : List Nat) (lt hd tl : List Oper) (hm : P.follows .mixedOrders = true) (hB : drawB ops N Λ H T = true)
    (hlt : lt.map some = Λ.map (ops[·]?)) (hhd : hd.map some = H.map (ops[·]?)) (htl : tl.map some = T.map (ops[·]?))
    (hQ : ∀ c a w d v, Q (.panic c) (Act.put a (some d) v) w → Q (.panic c) a w)
    (hC : UpC C) (h : LateW P ops N C (fun K1 => walk P ops C (fun K => Sq P ops N C Q K tl) K1 hd) K0 lt) {a0 : Act} {w : World} (hst : St N K0 C a0 w) : (Code.region id ops true).wp P Q a0 w := by
  refine wp_region_any hm ?_
  simp only [drawB, Bool.and_eq_true] at hB
  obtain ⟨⟨⟨⟨⟨⟨⟨⟨hsel, hlate⟩, hheadB⟩, hsink⟩, hchain⟩, hseq⟩, hcov⟩, hnd⟩, hbd⟩ := hB
  have hnd := nodupB_spec hnd
  have hbd : ∀ i ∈ Λ ++ (H ++ T), i < ops.size := fun i hi => by simpa using List.all_eq_true.1 hbd i hi
  have hcov : ∀ i, i < ops.size → i ∈ Λ ∨ i ∈ H ∨ i ∈ T := fun i hi => by
    have := List.all_eq_true.1 hcov i (List.mem_range.2 hi)
    simp only [Bool.or_eq_true, List.contains_iff_mem, decide_eq_true_eq] at this
    rcases this with (h | h) | h
    · exact .inl h
    · exact .inr (.inl h)
    · exact .inr (.inr h)
  obtain ⟨_, hHT, hdis1⟩ := List.nodup_append.1 hnd
  obtain ⟨hndH, _, hdis2⟩ := List.nodup_append.1 hHT
  obtain ⟨hdl, hget, hget'⟩ := map_get hhd
  have hhead : ∀ (p i : Nat) (o : Oper), H[p]? = some i → ops[i]? = some o → HeadT ops N Λ H p i o := fun p i o hp ho => by
    obtain ⟨o', ho', hH⟩ := headTB_spec hheadB hp
    have : o' = o := Option.some.inj (ho'.symm.trans ho)
    subst this
    exact hH
  have hsz : ops.size = Λ.length + (H.length + T.length) := by
    have hp : (Λ ++ (H ++ T)).Perm (List.range ops.size) := (List.perm_ext_iff_of_nodup hnd List.nodup_range).2 fun i => by
      rw [List.mem_range]
      constructor
      · exact hbd i
      · intro hi
        rcases hcov i hi with h | h | h <;> simp [h]
    have := hp.length_eq
    simpa using this.symm
  -- the head, in whatever order
  have phase2 : ∀ (K1 : List (Nat × Pr)), walk P ops C (fun K => Sq P ops N C Q K tl) K1 hd → ∀ (listed : Array Bool) (a : Act) (w : World), InvT ops Λ H T listed → (∀ i ∈ H, listed.getD i true = false) → St N K1 C a w → wpAny P .any ops Q (H.length + T.length) listed a w := by
    intro K1 hwalk
    unfold walk at hwalk
    obtain ⟨Rs, hRl, hF, hobs⟩ := hwalk
    have key : ∀ (f : Nat) (listed : Array Bool) (a : Act) (w : World), InvT ops Λ H T listed → cntU listed H = f → Inv hd.toArray C K1 H.length N Rs (fun q => ∃ i, H[q]? = some i ∧ listed.getD i false = true) a w →
        wpAny P .any ops Q (f + T.length) listed a w := by
      intro f
      induction f with
      | zero =>
        intro listed a w hinv hu hI
        have hlist := cntU_zero hu
        have hlisted : listed = maskA ops.size (Λ ++ H) := by
          apply Array.ext
          · simp [maskA, hinv.size]
          · intro i h1 h2
            have hi : i < ops.size := by rw [← hinv.size]; exact h1
            have e1 : listed.getD i true = listed[i] := by simp [h1]
            have e2 : listed.getD i false = listed[i] := by simp [h1]
            simp only [maskA, List.getElem_toArray, List.getElem_map, List.getElem_range]
            rcases hcov i hi with h | h | h
            · rw [← e2, hinv.late i h]; simp [h]
            · rw [← e1, hlist i h]; simp [h]
            · rw [← e1, hinv.tail i h]
              symm
              rw [← Bool.not_eq_true, List.contains_iff_mem]
              intro hc
              rcases List.mem_append.1 hc with hc | hc
              · exact hdis1 i hc i (List.mem_append_right _ h) rfl
              · exact hdis2 i hc i h rfl
        rw [hlisted, Nat.zero_add]
        refine wpAny_seqT T tl _ a w htl hseq ?_
        have hst : St N ((zipK hd Rs).reverse ++ K1) C a w := by
          refine ⟨hI.size, hI.defers, fun t p hp => ?_, hI.cls⟩
          have htake : (zipK hd Rs).take hd.length = zipK hd Rs := List.take_of_length_le (by simp [zipK]; omega)
          rw [lookK_append] at hp
          cases hk : lookK (zipK hd Rs).reverse t with
          | some q =>
            rw [hk] at hp
            have : q = p := by simpa using hp
            subst this
            have hx' : (t, q) ∈ (zipK hd Rs).take hd.length := by
              rw [htake]
              exact List.mem_reverse.1 (lookK_some hk)
            obtain ⟨j, oj, hj, hoj, hx1, hR⟩ := dst_zip hRl hx'
            obtain ⟨i, hi, hoi⟩ := hget' j oj hoj
            obtain ⟨d, hd', _⟩ := (hhead j i oj hi hoi).dst
            have e : t = d := by simp only [hd', Option.getD_some] at hx1; exact hx1
            subst e
            have him : i ∈ H := List.mem_of_getElem? hi
            exact hI.has j oj t q (by omega) ⟨i, hi, getD_t_f hinv.size (hbd i (by simp [him])) (hlist i him)⟩ (by simpa using hoj) hd' hR
          | none =>
            rw [hk] at hp
            refine hI.rest t (fun j oj hj hoj hdj => ?_) p (by simpa using hp)
            have hj' : j < hd.length := by omega
            obtain ⟨R, hR⟩ := mem_zip (i := hd.length) (l := hd) (j := j) (o := oj) hRl hj' (by simpa using hoj) hdj
            rw [htake] at hR
            exact lookK_none hk _ hR rfl
        have hF' := hF
        unfold Sq at hF'
        exact hF' a w hst
      | succ f ih =>
        intro listed a w hinv hu hI
        obtain ⟨p0, i0, hp0, hun0, hbefore⟩ := cntU_pos (listed := listed) (H := H) (by omega)
        have hready : i0 ∈ Region.ready .any ops listed := by
          obtain ⟨o, ho, hH⟩ := headTB_spec hheadB hp0
          refine mem_ready.2 ⟨hun0, o, ho, fun e he hb => ?_⟩
          rcases hH.back e he hb with h | ⟨q, hq, hqe⟩
          · exact hinv.late _ h
          · exact getD_t_f hinv.size (hbd _ (by have := List.mem_of_getElem? hqe; simp [this])) (hbefore q _ hq hqe)
        rw [show f + 1 + T.length = (f + T.length) + 1 by omega]
        refine ⟨fun h0 => (by rw [h0] at hready; cases hready), fun i hi => ?_⟩
        obtain ⟨hiun, oi, hoi, hwaits⟩ := mem_ready.1 hi
        have hisz : i < ops.size := (Array.getElem?_eq_some_iff.1 hoi).1
        have hiH : i ∈ H := by
          rcases hcov i hisz with h | h | h
          · have := hinv.late i h
            rw [getD_both hiun] at this
            cases this
          · exact h
          · cases hTe : T with
            | nil => rw [hTe] at h; cases h
            | cons t0 T' =>
              rw [hTe] at hsink
              exact absurd hi (tail_waitsT hTe hsink hchain hinv (fun x hx => hbd x (by simp [hx])) _ p0 i0 rfl hp0 hun0 i h)
        obtain ⟨p, hp⟩ := List.mem_iff_getElem?.1 hiH
        have hH := hhead p i oi hp hoi
        obtain ⟨d, hd', hdl', hdist⟩ := hH.dst
        have hoip := hget p i oi hp hoi
        obtain ⟨R, hR, hob⟩ := hobs p oi hoip
        have hdn : ∀ j, Region.waitsFor .any ops i j = true → listed.getD j false = true := fun j hj => by
          obtain ⟨o', ho', e, hem, hb, hon⟩ := Region.waitsFor_spec hj
          have : o' = oi := Option.some.inj (ho'.symm.trans hoi)
          subst this
          rw [← hon]
          exact hwaits e hem hb
        have hlooks : ∀ t ∈ oi.looksAt ops, ∀ q, lookK (((zipK hd Rs).take p).reverse ++ K1) t = some q → okAt q a t w := by
          intro t ht q hq
          obtain ⟨hts, hlk⟩ := hH.looks t ht
          rw [lookK_append] at hq
          cases hk : lookK ((zipK hd Rs).take p).reverse t with
          | some q' =>
            rw [hk] at hq
            have : q' = q := by simpa using hq
            subst this
            obtain ⟨j, oj, hj, hoj, hx, hRj⟩ := dst_zip hRl (List.mem_reverse.1 (lookK_some hk))
            obtain ⟨ij, hij, hoij⟩ := hget' j oj hoj
            obtain ⟨dj, hdj, _⟩ := (hhead j ij oj hij hoij).dst
            have hdt : oj.dst = some t := by rw [hdj]; simp only [hdj, Option.getD_some] at hx; rw [hx]
            exact hI.has j oj t q' (by have := (List.getElem?_eq_some_iff.1 hij).1; omega) ⟨ij, hij, hdn ij (hlk j ij oj hij hoij hdt).2⟩ (by simpa using hoj) hdt hRj
          | none =>
            rw [hk] at hq
            refine hI.rest t (fun j oj hj hoj hdj => ?_) q (by simpa using hq)
            obtain ⟨ij, hij, hoij⟩ := hget' j oj (by simpa using hoj)
            have hjp := (hlk j ij oj hij hoij hdj).1
            obtain ⟨R', hR'⟩ := mem_zip (l := hd) hRl hjp (by simpa using hoj) hdj
            exact lookK_none hk _ hR' rfl
        unfold wpOp
        simp only [hoi]
        refine ob_step hob hI.cls hlooks fun v w' he hv => ?_
        refine ih _ _ _ ⟨by simp [hinv.size], fun j oj hj hl e he' hb => ?_, fun x hx => getD_set_true (hinv.late x hx), fun x hx => ?_⟩ ?_ ?_
        · by_cases hij : i = j
          · subst hij
            have : oj = oi := Option.some.inj (hj.symm.trans hoi)
            subst this
            exact getD_set_true (hwaits e he' hb)
          · rw [getD_set_ne false hij] at hl
            exact getD_set_true (hinv.closed j oj hj hl e he' hb)
        · rw [getD_set_ne true (fun e => hdis2 i hiH x hx e)]
          exact hinv.tail x hx
        · have := cntU_set hiun hndH
          rw [if_pos hiH] at this
          omega
        · have hstep := hI.step (i := p) (o := oi) (d := d) (R := R) (v := v) (w' := w') hC he (by have := (List.getElem?_eq_some_iff.1 hp).1; omega) (by simpa using hoip) hd' hdl' hR hv (fun j oj hj hne hoj hdj => by
            obtain ⟨ij, hij, hoij⟩ := hget' j oj (by simpa using hoj)
            rcases Nat.lt_or_gt_of_ne hne with h | h
            · exact hdist j ij oj h hij hoij hdj
            · obtain ⟨dj, hdj', _, hx⟩ := (hhead j ij oj hij hoij).dst
              have : dj = d := Option.some.inj (hdj'.symm.trans hdj)
              subst this
              exact hx p i oi h hp hoi hd')
          refine ⟨hstep.cls, hstep.size, hstep.defers, hstep.rest, fun j oj dj Rj hj hdone hoj hdj hRj => hstep.has j oj dj Rj hj ?_ hoj hdj hRj⟩
          obtain ⟨ij, hij, hl⟩ := hdone
          by_cases e : ij = i
          · refine .inr ?_
            subst e
            have h1 := (List.getElem?_eq_some_iff.1 hij)
            have h2 := (List.getElem?_eq_some_iff.1 hp)
            exact (List.getElem_inj (h₀ := h1.1) (h₁ := h2.1) hndH).1 (h1.2.trans h2.2.symm)
          · rw [getD_set_ne false (Ne.symm e)] at hl
            exact .inl ⟨ij, hij, hl⟩
    intro listed a w hinv hun hst
    have hu : cntU listed H = H.length := by
      unfold cntU
      rw [List.filter_eq_self.2 fun i hi => by rw [hun i hi]; rfl]
    have := key H.length listed a w hinv hu ⟨hst.cls, hst.size, hst.defers, fun t _ p hp => hst.slots t p hp, fun j oj d R _ ⟨i, hi, hl⟩ => by
      rw [getD_both (hun i (List.mem_of_getElem? hi))] at hl
      cases hl⟩
    exact this
  -- those that come first
  have phase1 : ∀ (Λ' D : List Nat) (lt' : List Oper) (K : List (Nat × Pr)) (listed : Array Bool) (a : Act) (w : World), Λ = D ++ Λ' → lt'.map some = Λ'.map (ops[·]?) → listed.size = ops.size →
      (∀ j oj, ops[j]? = some oj → listed.getD j false = true → ∀ e ∈ oj.after, Region.binds .any e = true → listed.getD e.on false = true) → (∀ i ∈ D, listed.getD i false = true) → (∀ i ∈ H ++ T, listed.getD i true = false) →
      lateTB ops Λ' listed = true → LateW P ops N C (fun K1 => walk P ops C (fun K => Sq P ops N C Q K tl) K1 hd) K lt' → St N K C a w → wpAny P .any ops Q (Λ'.length + (H.length + T.length)) listed a w := by
    intro Λ'
    induction Λ' with
    | nil =>
      intro D lt' K listed a w hΛ hlt hs hcl hD hun _ hW hst
      have : lt' = [] := by simpa using hlt
      subst this
      rw [List.length_nil, Nat.zero_add]
      rw [List.append_nil] at hΛ
      subst hΛ
      exact phase2 K hW listed a w ⟨hs, hcl, hD, fun t ht => hun t (List.mem_append_right _ ht)⟩ (fun i hi => hun i (List.mem_append_left _ hi)) hst
    | cons i Λ' ih =>
      intro D lt' K listed a w hΛ hlt hs hcl hD hun hB hW hst
      cases lt' with
      | nil => simp at hlt
      | cons o lt' =>
        simp only [List.map_cons, List.cons.injEq] at hlt
        obtain ⟨hoi, hlt⟩ := hlt
        simp only [lateTB, Bool.and_eq_true] at hB
        obtain ⟨⟨⟨hgd, hrd⟩, hfr⟩, hrest⟩ := hB
        rw [← hoi] at hgd
        simp only at hgd
        have hg : o.guard = none := by simpa using hgd
        have hw : Region.wanted o (yielded ops a.tmps) = true := by simp [Region.wanted, hg]
        have hrd' : i ∈ Region.ready .any ops listed := by simpa using hrd
        obtain ⟨hiun, oi, hoi', hwaits⟩ := mem_ready.1 hrd'
        have : oi = o := Option.some.inj (hoi'.symm.trans hoi.symm)
        subst this
        simp only [LateW] at hW
        obtain ⟨d, R, hd', hdN, hpure, hW⟩ := hW
        obtain ⟨v, hrun, hR⟩ := hpure a w hst.cls fun t _ p hp => hst.slots t p hp
        rw [show (i :: Λ').length + (H.length + T.length) = (Λ'.length + (H.length + T.length)) + 1 by rw [List.length_cons]; omega]
        refine wpAny_take hoi.symm hsel hfr hrd (fun c a' w' hq => by rw [hd'] at hq; exact hQ _ _ _ _ _ hq) (.inl ⟨hw, hrun⟩) ?_
        rw [hd']
        refine ih (D ++ [i]) lt' ((d, R) :: K) _ _ w (by rw [hΛ, List.append_assoc]; rfl) hlt (by simp [hs]) (fun j oj hj hl e he' hb => ?_) (fun x hx => ?_) (fun x hx => ?_) hrest hW (hst.step hC (Ext.refl w) hdN hR)
        · by_cases hij : i = j
          · subst hij
            have : oj = oi := Option.some.inj (hj.symm.trans hoi')
            subst this
            exact getD_set_true (hwaits e he' hb)
          · rw [getD_set_ne false hij] at hl
            exact getD_set_true (hcl j oj hj hl e he' hb)
        · rcases List.mem_append.1 hx with hx | hx
          · exact getD_set_true (hD x hx)
          · have : x = i := by simpa using hx
            subst this
            have : x < listed.size := by rw [hs]; exact (Array.getElem?_eq_some_iff.1 hoi').1
            simp [this]
        · rw [getD_set_ne true (fun e => hdis1 i (by rw [hΛ]; simp) x hx e)]
          exact hun x hx
  have hdrew : Ext w w.drew := (Ext.refl w).drew
  have := phase1 Λ [] lt K0 (Array.replicate ops.size false) a0 w.drew rfl hlt (by simp) (fun j oj _ h => by rw [getD_replicate_false] at h; cases h) (fun i hi => by cases hi)
    (fun i hi => by have := hbd i (List.mem_append_right _ hi); simp [this]) hlate h ⟨hst.size, hst.defers, fun t p hp => (let ⟨v, hv, hk⟩ := hst.slots t p hp; ⟨v, hv, Pr.up_ok hdrew hk⟩), hC _ _ hst.cls hdrew⟩
  rw [← hsz] at this
  exact this
def pickL (l : List Oper) : List Nat → List Oper
  | [] => []
  | i :: I => match l[i]? with | some o => o :: pickL l I | none => pickL l I
theorem pickL_map {l : List Oper} : ∀ {I : List Nat}, (∀ i ∈ I, i < l.length) → (pickL l I).map some = I.map (l.toArray[·]?)
  | [], _ => rfl
  | i :: I, h => by
    have hi := h i (by simp)
    have ih := pickL_map (l := l) (I := I) fun j hj => h j (List.mem_cons_of_mem _ hj)
    simp only [pickL, List.getElem?_eq_getElem hi, List.map_cons, ih]
    simp [hi]
/-- The head, in the order of the text. -/
def WkH (P : Program) (ops : Array Oper) (N : Nat) (C : World → Prop) (Q : Exit → Act → World → Prop) (tl : List Oper) (K : List (Nat × Pr)) (l : List Oper) : Prop := walk P ops C (fun K => Sq P ops N C Q K tl) K l
theorem wkH_stepper {tl : List Oper} : Stepper P ops C N (WkH P ops N C Q tl) := walk_stepper sq_fin_congr
theorem WkH_nil {tl : List Oper} (h : Sq P ops N C Q K tl) : WkH P ops N C Q tl K [] := walk_nil h
theorem H_drawT {id : Nat} {l : List Oper} (Λ H T : List Nat) (hm : P.follows .mixedOrders = true) (hB : drawB l.toArray N Λ H T = true)
    (hC : UpC C) (hQ : ∀ c a w d v, Q (.panic c) (Act.put a (some d) v) w → Q (.panic c) a w)
    (h : LateW P l.toArray N C (fun K1 => WkH P l.toArray N C Q (pickL l T) K1 (pickL l H)) K (pickL l Λ)) : Hc P N K C (.region id l.toArray true) Q := .of fun a w hst => by
  have hb : ∀ i ∈ Λ ++ (H ++ T), i < l.length := fun i hi => by
    simp only [drawB, Bool.and_eq_true] at hB
    simpa using List.all_eq_true.1 hB.2 i hi
  exact region_drawT Λ H T _ _ _ hm hB (pickL_map fun i hi => hb i (by simp [hi])) (pickL_map fun i hi => hb i (by simp [hi])) (pickL_map fun i hi => hb i (by simp [hi])) hQ hC h hst
/-! ### Those that come first -/
section
variable {Fin : List (Nat × Pr) → Prop} {l : List Oper} {d : Nat} {ty : TypeId} {pos : String} {af : Array Edge} {g : Option (Nat × Bool)}
theorem L_nil (h : Fin K) : LateW P ops N C Fin K [] := h
theorem L_move {x : Operand} {p : Pr} (hN : Nat.blt d N = true) (hx : kn K x = some p) (h : LateW P ops N C Fin ((d, p) :: K) l) : LateW P ops N C Fin K (⟨some d, .move x, ty, pos, af, g⟩ :: l) :=
  ⟨d, p, rfl, Nat.le_of_ble_eq_true hN, fun a w _ hk => ⟨a.eval x, fun w' => by simp [execOp], kn_ok (ops := ops) (op := .move x) (by simp [Op.operands]) hx hk⟩, h⟩
end
end
attribute [irreducible] LateW WkH
end Go.Proofs.YtanlaggnhocjhaaGreat

/- A region that draws its order, in general: facts of what was done so far, worlds related by any relation, a class that every step keeps. -/
import Derived.Test.YtanlaggnhocjhaaDrg
namespace Go.Proofs.Ytanlaggnhocjhaa
set_option linter.unusedSimpArgs false
set_option linter.unusedVariables false
open Go.RowKit
section
variable {P : Program} {ops : Array Oper} {C : World → Prop} {Q : Exit → Act → World → Prop} {N : Nat} {K : List (Nat × Pr)} {Rl : World → World → Prop}
/-- o comes after the operation that writes d. -/
def waitsDB (ops : Array Oper) (o : Oper) (d : Nat) : Bool := o.after.any fun e => Region.binds .any e && (match ops[e.on]? with | some o' => o'.dst == some d | none => false)
theorem waitsDB_spec {o : Oper} {d : Nat} (h : waitsDB ops o d = true) : ∃ e ∈ o.after, Region.binds .any e = true ∧ ∃ o', ops[e.on]? = some o' ∧ o'.dst = some d := by
  unfold waitsDB at h
  rw [Array.any_eq_true'] at h
  obtain ⟨e, he, h⟩ := h
  rw [Bool.and_eq_true] at h
  refine ⟨e, he, h.1, ?_⟩
  have h2 := h.2
  split at h2
  · rename_i o' ho'
    exact ⟨o', ho', by simpa using h2⟩
  · cases h2
abbrev Fct := Act → World → Prop
def okRl (Rl : World → World → Prop) (p : Pr) : Prop := ∀ v w w', Rl w w' → p.ok v w → p.ok v w'
def ObR (P : Program) (ops : Array Oper) (Rl : World → World → Prop) (C : World → Prop) (Wf : Fct) (K : List (Nat × Pr)) (o : Oper) (R : Pr) (F : Fct) : Prop :=
  ∀ (a : Act) (w : World), C w → (∀ t ∈ o.looksAt ops, ∀ p, lookK K t = some p → okAt p a t w) → Wf a w → (∃ d, o.dst = some d ∧ d < a.tmps.size) →
    if Region.wanted o (yielded ops a.tmps) = true then gives P o a w (fun v w' => Rl w w' ∧ C w' ∧ R.ok v w' ∧ F (a.put o.dst v) w') else Rl w w ∧ R.ok undef w ∧ F (a.put o.dst undef) w
def StabR (ops : Array Oper) (Rl : World → World → Prop) (o : Oper) (F : Fct) : Prop := ∀ (a : Act) (w : World) (d : Nat) (v : Value) (w' : World), o.dst ≠ some d → d ∉ o.looksAt ops → waitsDB ops o d = false → F a w → Rl w w' → F (a.put (some d) v) w'
def WfR (ops : Array Oper) (l : List Oper) (Fs : List Fct) (i : Nat) (Fs0 : List (Nat × Fct)) (o : Oper) : Fct := fun a w =>
  (∀ (j : Nat) (oj : Oper) (dj : Nat) (F : Fct), j < i → l[j]? = some oj → oj.dst = some dj → Fs[j]? = some F → waitsDB ops o dj = true → F a w) ∧ ∀ x ∈ Fs0, waitsDB ops o x.1 = true → x.2 a w
def WR (P : Program) (ops : Array Oper) (Rl : World → World → Prop) (N : Nat) (C : World → Prop) (Q : Exit → Act → World → Prop) (tl : List Oper) (Fs0 : List (Nat × Fct)) (K : List (Nat × Pr)) (l : List Oper) : Prop :=
  ∃ (Rs : List Pr) (Fs : List Fct), Rs.length = l.length ∧ Fs.length = l.length ∧
    (∀ a w, St N ((zipK l Rs).reverse ++ K) C a w → (∀ F ∈ Fs ++ Fs0.map (·.2), F a w) → wpList P ops Q tl a w) ∧
    ∀ (i : Nat) (o : Oper), l[i]? = some o → ∃ R F, Rs[i]? = some R ∧ Fs[i]? = some F ∧ okRl Rl R ∧ StabR ops Rl o F ∧ ObR P ops Rl C (WfR ops l Fs i Fs0 o) (((zipK l Rs).take i).reverse ++ K) o R F
structure InvR (hd : List Oper) (C : World → Prop) (K0 : List (Nat × Pr)) (N : Nat) (Rs : List Pr) (Fs : List Fct) (done : Nat → Prop) (a : Act) (w : World) : Prop where
  cls : C w
  size : a.tmps.size = N
  defers : a.defers = []
  rest : ∀ t, (∀ (j : Nat) (oj : Oper), hd[j]? = some oj → oj.dst ≠ some t) → ∀ p, lookK K0 t = some p → okAt p a t w
  has : ∀ (j : Nat) (oj : Oper) (d : Nat) (R : Pr), done j → hd[j]? = some oj → oj.dst = some d → Rs[j]? = some R → okAt R a d w
  fct : ∀ (j : Nat) (F : Fct), done j → Fs[j]? = some F → F a w
theorem okAt.stepR {p : Pr} {a : Act} {t d : Nat} {w w' : World} {v : Value} (hp : okRl Rl p) (h : okAt p a t w) (he : Rl w w') (hne : d ≠ t) : okAt p (a.put (some d) v) t w' := by
  obtain ⟨u, hu, hk⟩ := h
  exact ⟨u, by simp [Act.put, Array.getElem?_setIfInBounds, hne, hu], hp _ _ _ he hk⟩
theorem obR_step {a : Act} {w : World} {o : Oper} {Wf : Fct} {R : Pr} {F : Fct} {M : Act → World → Prop} (hob : ObR P ops Rl C Wf K o R F) (hc : C w) (hlk : ∀ t ∈ o.looksAt ops, ∀ p, lookK K t = some p → okAt p a t w) (hW : Wf a w) (hsz : ∃ d, o.dst = some d ∧ d < a.tmps.size)
    (hN : ∀ v w', Rl w w' → C w' → R.ok v w' → F (a.put o.dst v) w' → M (a.put o.dst v) w') :
    if Region.wanted o (yielded ops a.tmps) = true then o.wp P a w M Q ∨ (o.asks P a w ∧ LetsOut Q) else M (a.put o.dst undef) w := by
  have h1 := hob a w hc hlk hW hsz
  split
  · rename_i hw
    rw [if_pos hw] at h1
    exact .inl (h1.wp fun v w' ⟨he, hcl, hv, hF⟩ => hN v w' he hcl hv hF)
  · rename_i hw
    rw [if_neg hw] at h1
    exact hN undef w h1.1 hc h1.2.1 h1.2.2
theorem region_drawR {id : Nat} {K1 : List (Nat × Pr)} (H T : List Nat) (hd tl : List Oper) (hm : P.follows .mixedOrders = true) (hB : drawB ops N [] H T = true)
    (hhd : hd.map some = H.map (ops[·]?)) (htl : tl.map some = T.map (ops[·]?)) (hK : ∀ t p, lookK K1 t = some p → okRl Rl p)
    (h : WR P ops Rl N C Q tl [] K1 hd) {a0 : Act} {w : World} (hst : St N K1 C a0 w.drew) : (Code.region id ops true).wp P Q a0 w := by
  refine wp_region_any hm ?_
  simp only [drawB, Bool.and_eq_true] at hB
  obtain ⟨⟨⟨⟨⟨⟨⟨⟨hsel, hlate⟩, hheadB⟩, hsink⟩, hchain⟩, hseq⟩, hcov⟩, hnd⟩, hbd⟩ := hB
  have hHT : (H ++ T).Nodup := nodupB_spec hnd
  have hbd : ∀ i ∈ H ++ T, i < ops.size := fun i hi => by simpa using List.all_eq_true.1 hbd i hi
  have hcov : ∀ i, i < ops.size → i ∈ H ∨ i ∈ T := fun i hi => by
    have := List.all_eq_true.1 hcov i (List.mem_range.2 hi)
    simp only [Bool.or_eq_true, List.contains_iff_mem, decide_eq_true_eq] at this
    rcases this with (h | h) | h
    · cases h
    · exact .inl h
    · exact .inr h
  obtain ⟨hndH, _, hdis2⟩ := List.nodup_append.1 hHT
  obtain ⟨hdl, hget, hget'⟩ := map_get hhd
  have hhead : ∀ (p i : Nat) (o : Oper), H[p]? = some i → ops[i]? = some o → HeadT ops N [] H p i o := fun p i o hp ho => by
    obtain ⟨o', ho', hH⟩ := headTB_spec hheadB hp
    have : o' = o := Option.some.inj (ho'.symm.trans ho)
    subst this
    exact hH
  have hsz : ops.size = H.length + T.length := by
    have hp : (H ++ T).Perm (List.range ops.size) := (List.perm_ext_iff_of_nodup hHT List.nodup_range).2 fun i => by
      rw [List.mem_range]
      constructor
      · exact hbd i
      · intro hi
        rcases hcov i hi with h | h <;> simp [h]
    have := hp.length_eq
    simpa using this.symm
  unfold WR at h
  obtain ⟨Rs, Fs, hRl, hFl, hF, hobs⟩ := h
  have key : ∀ (f : Nat) (listed : Array Bool) (a : Act) (w : World), InvT ops [] H T listed → cntU listed H = f → InvR hd C K1 N Rs Fs (fun q => ∃ i, H[q]? = some i ∧ listed.getD i false = true) a w →
      wpAny P .any ops Q (f + T.length) listed a w := by
    intro f
    induction f with
    | zero =>
      intro listed a w hinv hu hI
      have hlist := cntU_zero hu
      have hlisted : listed = maskA ops.size ([] ++ H) := by
        apply Array.ext
        · simp [maskA, hinv.size]
        · intro i h1 h2
          have hi : i < ops.size := by rw [← hinv.size]; exact h1
          have e1 : listed.getD i true = listed[i] := by simp [h1]
          simp only [maskA, List.getElem_toArray, List.getElem_map, List.getElem_range]
          rcases hcov i hi with h | h
          · rw [← e1, hlist i h]; simp [h]
          · rw [← e1, hinv.tail i h]
            symm
            rw [← Bool.not_eq_true, List.contains_iff_mem]
            intro hc
            exact hdis2 i (by simpa using hc) i h rfl
      rw [hlisted, Nat.zero_add]
      refine wpAny_seqT T tl _ a w htl hseq ?_
      have hdone : ∀ q, q < hd.length → ∃ i, H[q]? = some i ∧ listed.getD i false = true := fun q hq => by
        have hi : H[q]? = some (H[q]'(by omega)) := List.getElem?_eq_getElem (by omega)
        have him : H[q]'(by omega) ∈ H := List.mem_of_getElem? hi
        exact ⟨_, hi, getD_t_f hinv.size (hbd _ (by simp [him])) (hlist _ him)⟩
      have hst : St N ((zipK hd Rs).reverse ++ K1) C a w := by
        refine ⟨hI.size, hI.defers, fun t p hp => ?_, hI.cls⟩
        have htake : (zipK hd Rs).take hd.length = zipK hd Rs := List.take_of_length_le (by simp [zipK]; omega)
        rw [lookK_append] at hp
        cases hk : lookK (zipK hd Rs).reverse t with
        | some q =>
          rw [hk] at hp
          have : q = p := by simpa using hp
          subst this
          have hx' : (t, q) ∈ (zipK hd Rs).take hd.length := by
            rw [htake]
            exact List.mem_reverse.1 (lookK_some hk)
          obtain ⟨j, oj, hj, hoj, hx1, hR⟩ := dst_zip hRl hx'
          obtain ⟨i, hi, hoi⟩ := hget' j oj hoj
          obtain ⟨d, hd', _⟩ := (hhead j i oj hi hoi).dst
          have e : t = d := by simp only [hd', Option.getD_some] at hx1; exact hx1
          subst e
          exact hI.has j oj t q (hdone j hj) hoj hd' hR
        | none =>
          rw [hk] at hp
          refine hI.rest t (fun j oj hoj hdj => ?_) p (by simpa using hp)
          have hj' : j < hd.length := (List.getElem?_eq_some_iff.1 hoj).1
          obtain ⟨R, hR⟩ := mem_zip (i := hd.length) (l := hd) (j := j) (o := oj) hRl hj' hoj hdj
          rw [htake] at hR
          exact lookK_none hk _ hR rfl
      refine hF a w hst (fun F hFm => ?_)
      rw [List.map_nil, List.append_nil] at hFm
      obtain ⟨q, hq⟩ := List.mem_iff_getElem?.1 hFm
      have hql : q < hd.length := by have := (List.getElem?_eq_some_iff.1 hq).1; omega
      exact hI.fct q F (hdone q hql) hq
    | succ f ih =>
      intro listed a w hinv hu hI
      obtain ⟨p0, i0, hp0, hun0, hbefore⟩ := cntU_pos (listed := listed) (H := H) (by omega)
      have hready : i0 ∈ Region.ready .any ops listed := by
        obtain ⟨o, ho, hH⟩ := headTB_spec hheadB hp0
        refine mem_ready.2 ⟨hun0, o, ho, fun e he hb => ?_⟩
        rcases hH.back e he hb with h | ⟨q, hq, hqe⟩
        · cases h
        · exact getD_t_f hinv.size (hbd _ (by have := List.mem_of_getElem? hqe; simp [this])) (hbefore q _ hq hqe)
      rw [show f + 1 + T.length = (f + T.length) + 1 by omega]
      refine ⟨fun h0 => (by rw [h0] at hready; cases hready), fun i hi => ?_⟩
      obtain ⟨hiun, oi, hoi, hwaits⟩ := mem_ready.1 hi
      have hisz : i < ops.size := (Array.getElem?_eq_some_iff.1 hoi).1
      have hiH : i ∈ H := by
        rcases hcov i hisz with h | h
        · exact h
        · cases hTe : T with
          | nil => rw [hTe] at h; cases h
          | cons t0 T' =>
            rw [hTe] at hsink
            exact absurd hi (tail_waitsT hTe hsink hchain hinv (fun x hx => hbd x (by simp [hx])) _ p0 i0 rfl hp0 hun0 i h)
      obtain ⟨p, hp⟩ := List.mem_iff_getElem?.1 hiH
      have hH := hhead p i oi hp hoi
      obtain ⟨d, hd', hdl', hdist⟩ := hH.dst
      have hoip := hget p i oi hp hoi
      obtain ⟨R, F, hR, hFp, hRf, hstab, hob⟩ := hobs p oi hoip
      have hdn : ∀ j, Region.waitsFor .any ops i j = true → listed.getD j false = true := fun j hj => by
        obtain ⟨o', ho', e, hem, hb, hon⟩ := Region.waitsFor_spec hj
        have : o' = oi := Option.some.inj (ho'.symm.trans hoi)
        subst this
        rw [← hon]
        exact hwaits e hem hb
      have hlooks : ∀ t ∈ oi.looksAt ops, ∀ q, lookK (((zipK hd Rs).take p).reverse ++ K1) t = some q → okAt q a t w := by
        intro t ht q hq
        obtain ⟨hts, hlk⟩ := hH.looks t ht
        rw [lookK_append] at hq
        cases hk : lookK ((zipK hd Rs).take p).reverse t with
        | some q' =>
          rw [hk] at hq
          have : q' = q := by simpa using hq
          subst this
          obtain ⟨j, oj, hj, hoj, hx, hRj⟩ := dst_zip hRl (List.mem_reverse.1 (lookK_some hk))
          obtain ⟨ij, hij, hoij⟩ := hget' j oj hoj
          obtain ⟨dj, hdj, _⟩ := (hhead j ij oj hij hoij).dst
          have hdt : oj.dst = some t := by rw [hdj]; simp only [hdj, Option.getD_some] at hx; rw [hx]
          exact hI.has j oj t q' ⟨ij, hij, hdn ij (hlk j ij oj hij hoij hdt).2⟩ hoj hdt hRj
        | none =>
          rw [hk] at hq
          refine hI.rest t (fun j oj hoj hdj => ?_) q (by simpa using hq)
          obtain ⟨ij, hij, hoij⟩ := hget' j oj hoj
          have hjp := (hlk j ij oj hij hoij hdj).1
          obtain ⟨R', hR'⟩ := mem_zip (l := hd) hRl hjp hoj hdj
          exact lookK_none hk _ hR' rfl
      have hdd : ∀ (j : Nat) (oj : Oper), hd[j]? = some oj → j ≠ p → oj.dst ≠ some d := fun j oj hoj hne hdj => by
        obtain ⟨ij, hij, hoij⟩ := hget' j oj hoj
        rcases Nat.lt_or_gt_of_ne hne with h | h
        · exact hdist j ij oj h hij hoij hdj
        · obtain ⟨dj, hdj', _, hx⟩ := (hhead j ij oj hij hoij).dst
          have : dj = d := Option.some.inj (hdj'.symm.trans hdj)
          subst this
          exact hx p i oi h hp hoi hd'
      have hlisH : ∀ j, listed.getD j false = true → j < ops.size → j ∈ H := fun j hj hjs => by
        rcases hcov j hjs with h | h
        · exact h
        · have := hinv.tail j h
          rw [getD_both this] at hj
          cases hj
      have hWf : WfR ops hd Fs p [] oi a w := by
        refine ⟨fun j oj dj Fj hjp hoj hdj hFj hwt => ?_, fun x hx => by cases hx⟩
        obtain ⟨e, he, hb, o', ho', hd2⟩ := waitsDB_spec hwt
        have hl := hwaits e he hb
        have heH := hlisH _ hl (Array.getElem?_eq_some_iff.1 ho').1
        obtain ⟨q, hq⟩ := List.mem_iff_getElem?.1 heH
        have hoq := hget q _ o' hq ho'
        have hqj : q = j := by
          obtain ⟨ij, hij, hoij⟩ := hget' j oj hoj
          rcases Nat.lt_trichotomy q j with h | h | h
          · obtain ⟨dd, hdd1, _, hx⟩ := (hhead j ij oj hij hoij).dst
            have : dd = dj := Option.some.inj (hdd1.symm.trans hdj)
            subst this
            exact absurd hd2 (hx q _ o' h hq ho')
          · exact h
          · obtain ⟨dd, hdd1, _, hx⟩ := (hhead q _ o' hq ho').dst
            have : dd = dj := Option.some.inj (hdd1.symm.trans hd2)
            subst this
            exact absurd hdj (hx j ij oj h hij hoij)
        subst hqj
        exact hI.fct q Fj ⟨_, hq, hl⟩ hFj
      have wasdone : ∀ j, (∃ i', H[j]? = some i' ∧ (listed.setIfInBounds i true).getD i' false = true) → (∃ i', H[j]? = some i' ∧ listed.getD i' false = true) ∨ j = p := fun j ⟨ij, hij, hl⟩ => by
        by_cases e : ij = i
        · refine .inr ?_
          subst e
          have h1 := (List.getElem?_eq_some_iff.1 hij)
          have h2 := (List.getElem?_eq_some_iff.1 hp)
          exact (List.getElem_inj (h₀ := h1.1) (h₁ := h2.1) hndH).1 (h1.2.trans h2.2.symm)
        · rw [getD_set_ne false (Ne.symm e)] at hl
          exact .inl ⟨ij, hij, hl⟩
      have hnotdone : ¬ ∃ i', H[p]? = some i' ∧ listed.getD i' false = true := fun ⟨i', h1, h2⟩ => by
        have : i' = i := Option.some.inj (h1.symm.trans hp)
        subst this
        rw [getD_both hiun] at h2
        cases h2
      have hsz' : d < a.tmps.size := by rw [hI.size]; exact hdl'
      unfold wpOp
      simp only [hoi]
      refine obR_step hob hI.cls hlooks hWf ⟨d, hd', hsz'⟩ fun v w' he hcl hv hFv => ?_
      rw [hd'] at hFv ⊢
      have hmine : (a.put (some d) v).tmps[d]? = some v := by simp [Act.put, Array.getElem?_setIfInBounds, hsz']
      refine ih _ _ _ ⟨by simp [hinv.size], fun j oj hj hl e he' hb => ?_, fun x hx => (by cases hx), fun x hx => ?_⟩ ?_ ?_
      · by_cases hij : i = j
        · subst hij
          have : oj = oi := Option.some.inj (hj.symm.trans hoi)
          subst this
          exact getD_set_true (hwaits e he' hb)
        · rw [getD_set_ne false hij] at hl
          exact getD_set_true (hinv.closed j oj hj hl e he' hb)
      · rw [getD_set_ne true (fun e => hdis2 i hiH x hx e)]
        exact hinv.tail x hx
      · have := cntU_set hiun hndH
        rw [if_pos hiH] at this
        omega
      · refine ⟨hcl, by simpa [Act.put] using hI.size, hI.defers, fun t ht p' hp' => ?_, fun j oj dj Rj hdone hoj hdj hRj => ?_, fun j Fj hdone hFj => ?_⟩
        · have hne : d ≠ t := fun e => ht p oi hoip (e ▸ hd')
          exact (hI.rest t ht p' hp').stepR (hK t p' hp') he hne
        · rcases wasdone j hdone with hj | rfl
          · have hjp : j ≠ p := fun e => by subst e; exact hnotdone hj
            have hne : d ≠ dj := fun e => hdd j oj hoj hjp (e ▸ hdj)
            obtain ⟨R', _, hR', _, hf', _⟩ := hobs j oj hoj
            have : R' = Rj := Option.some.inj (hR'.symm.trans hRj)
            subst this
            exact (hI.has j oj dj R' hj hoj hdj hRj).stepR hf' he hne
          · have e1 : oj = oi := Option.some.inj (hoj.symm.trans hoip)
            subst e1
            have e2 : dj = d := Option.some.inj (hdj.symm.trans hd')
            subst e2
            have e3 : Rj = R := Option.some.inj (hRj.symm.trans hR)
            subst e3
            exact ⟨v, hmine, hv⟩
        · rcases wasdone j hdone with hj | rfl
          · obtain ⟨ij, hij, hlj⟩ := hj
            obtain ⟨oj, hoj, hHj⟩ := headTB_spec hheadB hij
            have hojd := hget j ij oj hij hoj
            obtain ⟨_, F', _, hF', _, hstab', _⟩ := hobs j oj hojd
            have : F' = Fj := Option.some.inj (hF'.symm.trans hFj)
            subst this
            have hjp : j ≠ p := fun e => by subst e; exact hnotdone ⟨ij, hij, hlj⟩
            refine hstab' a w d v w' (hdd j oj hojd hjp) (fun hlk => ?_) ?_ (hI.fct j F' ⟨ij, hij, hlj⟩ hFj) he
            · have h2 := ((hHj.looks d hlk).2 p i oi hp hoi hd').2
              obtain ⟨o', ho', e, hem, hb, hon⟩ := Region.waitsFor_spec h2
              have : o' = oj := Option.some.inj (ho'.symm.trans hoj)
              subst this
              have h3 := hinv.closed ij o' hoj hlj e hem hb
              rw [hon, getD_both hiun] at h3
              cases h3
            · rw [← Bool.not_eq_true]
              intro hw
              obtain ⟨e, hem, hb, o', ho', hd2⟩ := waitsDB_spec hw
              have h3 := hinv.closed ij oj hoj hlj e hem hb
              have heH := hlisH _ h3 (Array.getElem?_eq_some_iff.1 ho').1
              obtain ⟨q, hq⟩ := List.mem_iff_getElem?.1 heH
              have hoq := hget q _ o' hq ho'
              by_cases hqp : q = p
              · subst hqp
                have : e.on = i := Option.some.inj (hq.symm.trans hp)
                rw [this, getD_both hiun] at h3
                cases h3
              · exact hdd q o' hoq hqp hd2
          · have : F = Fj := Option.some.inj (hFp.symm.trans hFj)
            subst this
            exact hFv
  have hu : cntU (Array.replicate ops.size false) H = H.length := by
    unfold cntU
    rw [List.filter_eq_self.2 fun i hi => by
      have := hbd i (by simp [hi])
      simp [this]]
  have hnone : ∀ q : Nat, ¬ ∃ i : Nat, H[q]? = some i ∧ (Array.replicate ops.size false).getD i false = true := fun q ⟨i, hi, hl⟩ => by
    rw [getD_replicate_false] at hl
    cases hl
  have := key H.length (Array.replicate ops.size false) a0 w.drew ⟨by simp, fun j oj _ h => (by rw [getD_replicate_false] at h; cases h), fun x hx => (by cases hx), fun x hx => by have := hbd x (by simp [hx]); simp [this]⟩ hu
    ⟨hst.cls, hst.size, hst.defers, fun t _ p hp => hst.slots t p hp, fun j oj d R hq => absurd hq (hnone j), fun j F hq => absurd hq (hnone j)⟩
  rw [← hsz] at this
  exact this
end
attribute [irreducible] WR
end Go.Proofs.Ytanlaggnhocjhaa

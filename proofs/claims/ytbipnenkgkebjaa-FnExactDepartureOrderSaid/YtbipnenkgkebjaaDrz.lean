/- A region that draws its order in which one plain operation may come up while the rest is under way. -/
import Derived.Test.YtbipnenkgkebjaaDrs
namespace Go.Proofs.Ytbipnenkgkebjaa
set_option linter.unusedSimpArgs false
set_option linter.unusedVariables false
open Go.RowKit
def sinkZB (ops : Array Oper) (H : List Nat) (z t0 : Nat) : Bool :=
  (List.range H.length).all fun p => ((H[p]?).getD 0 == z || Region.waitsFor .any ops t0 ((H[p]?).getD 0)) || (H.drop (p + 1)).any fun j => j != z && Region.waitsFor .any ops j ((H[p]?).getD 0)
def drawZB (ops : Array Oper) (sz : Nat) (H : List Nat) (z : Nat) (T : List Nat) : Bool :=
  Region.noSelect ops && headTB ops sz [] H && (match T with | [] => true | t0 :: _ => sinkZB ops H z t0) && chainTB ops T && seqTB ops T (maskA ops.size ([] ++ H)) &&
  ((List.range ops.size).all fun i => H.contains i || T.contains i) && nodupB (H ++ T) && (H ++ T).all (fun i => decide (i < ops.size)) &&
  (Region.ready .any ops (maskA ops.size (H.filter fun j => j != z))).contains z && Region.free .any ops (maskA ops.size (H.filter fun j => j != z)) z
section
variable {P : Program} {ops : Array Oper} {C : World → Prop} {Q : Exit → Act → World → Prop} {N : Nat} {K : List (Nat × Pr)}
/-- As long as one of the head waits, nothing of the rest is ready. -/
theorem tail_waitsZ {Λ H T : List Nat} {listed : Array Bool} {t0 z : Nat} {T' : List Nat} (hT : T = t0 :: T') (hs : sinkZB ops H z t0 = true) (hc : chainTB ops T = true) (inv : InvT ops Λ H T listed) (hlt : ∀ i ∈ H, i < ops.size) :
    ∀ (d p i : Nat), H.length - p = d → H[p]? = some i → listed.getD i true = false → i ≠ z → ∀ t ∈ T, t ∉ Region.ready .any ops listed := by
  intro d
  induction d using Nat.strongRecOn with
  | _ d ih =>
    intro p i hd hp hun hnz t ht hr
    have hpl : p < H.length := (List.getElem?_eq_some_iff.1 hp).1
    obtain ⟨_, ot, hot, hall⟩ := mem_ready.1 hr
    have hwait : ∀ j, Region.waitsFor .any ops t j = true → listed.getD j false = true := fun j hj => by
      obtain ⟨o', ho', e, he, hb, hon⟩ := Region.waitsFor_spec hj
      have : o' = ot := Option.some.inj (ho'.symm.trans hot)
      subst this
      rw [← hon]
      exact hall e he hb
    by_cases htn : t = t0
    · subst htn
      have h1 := List.all_eq_true.1 hs p (List.mem_range.2 hpl)
      rw [hp, Option.getD_some, Bool.or_eq_true, Bool.or_eq_true] at h1
      rcases h1 with (h1 | h1) | h1
      · exact hnz (by simpa using h1)
      · have := hwait i h1
        rw [getD_both hun] at this
        cases this
      · obtain ⟨j, hj, hj2⟩ := List.any_eq_true.1 h1
        rw [Bool.and_eq_true] at hj2
        obtain ⟨hjz, hj2⟩ := hj2
        obtain ⟨q, hq, hjq⟩ := get_of_drop hj
        cases hl : listed.getD j false with
        | true =>
          obtain ⟨oj, hoj, e, he, hb, hon⟩ := Region.waitsFor_spec hj2
          have h2 := inv.closed j oj hoj hl e he hb
          rw [hon, getD_both hun] at h2
          cases h2
        | false =>
          have hjs : j < listed.size := by rw [inv.size]; exact hlt j (List.mem_of_getElem? hjq)
          exact ih (H.length - q) (by omega) q j rfl hjq (getD_in hjs hl) (by simpa using hjz) t ht hr
    · have key : ∀ (T : List Nat), chainTB ops T = true → (∀ x ∈ T, listed.getD x true = false) → ∀ t0 T', T = t0 :: T' → t ∈ T → t ≠ t0 → False := by
        intro T
        induction T with
        | nil => intro _ _ _ _ h; cases h
        | cons a T iht =>
          intro hc hun t0 T' hT ht hne
          injection hT with h1 h2
          subst h1 h2
          cases T with
          | nil => simp at ht; exact hne ht
          | cons b T =>
            simp only [chainTB, Bool.and_eq_true] at hc
            by_cases e : t = b
            · subst e
              have h3 := hwait a hc.1
              rw [getD_both (hun a (by simp))] at h3
              cases h3
            · exact iht hc.2 (fun x hx => hun x (List.mem_cons_of_mem _ hx)) b T rfl ((List.mem_cons.1 ht).resolve_left hne) e
      exact key T hc inv.tail t0 T' hT ht htn
theorem region_drawZ {id : Nat} {K1 : List (Nat × Pr)} (H T : List Nat) (z : Nat) (o0 : Oper) (hd tl : List Oper) (hm : P.follows .mixedOrders = true) (hB : drawZB ops N H z T = true) (ho0 : ops[z]? = some o0) (hzg : o0.guard = none) (hpure : ∀ (a : Act) (w : World) (G : Value → World → Prop), gives P o0 a w G → ∃ v, ∀ w', (execOp a.eval o0).run P w' = .ok (.value v) w')
    (hhd : hd.map some = H.map (ops[·]?)) (htl : tl.map some = T.map (ops[·]?)) (hQ : ∀ c a w d v, Q (.panic c) (Act.put a (some d) v) w → Q (.panic c) a w)
    (hC : UpC C) (h : walk P ops C (fun K => Sq P ops N C Q K tl) K1 hd) {a0 : Act} {w : World} (hst : St N K1 C a0 w.drew) : (Code.region id ops true).wp P Q a0 w := by
  refine wp_region_any hm ?_
  simp only [drawZB, Bool.and_eq_true] at hB
  obtain ⟨⟨⟨⟨⟨⟨⟨⟨⟨hsel, hheadB⟩, hsink⟩, hchain⟩, hseq⟩, hcov⟩, hnd⟩, hbd⟩, hrdz⟩, hfree⟩ := hB
  have hHT : (H ++ T).Nodup := nodupB_spec hnd
  have hbd : ∀ i ∈ H ++ T, i < ops.size := fun i hi => by simpa using List.all_eq_true.1 hbd i hi
  have hcov : ∀ i, i < ops.size → i ∈ H ∨ i ∈ T := fun i hi => by
    have := List.all_eq_true.1 hcov i (List.mem_range.2 hi)
    simp only [Bool.or_eq_true, List.contains_iff_mem] at this
    exact this
  obtain ⟨hndH, _, hdis2⟩ := List.nodup_append.1 hHT
  obtain ⟨hdl, hget, hget'⟩ := map_get hhd
  have hhead : ∀ (p i : Nat) (o : Oper), H[p]? = some i → ops[i]? = some o → HeadT ops N [] H p i o := fun p i o hp ho => by
    obtain ⟨o', ho', hH⟩ := headTB_spec hheadB hp
    have : o' = o := Option.some.inj (ho'.symm.trans ho)
    subst this
    exact hH
  have hsz : ops.size = H.length + T.length := by
    have hp : (H ++ T).Perm (List.range ops.size) := (List.perm_ext_iff_of_nodup hHT List.nodup_range).2 fun i => by
      rw [List.mem_range]
      constructor
      · exact hbd i
      · intro hi
        rcases hcov i hi with h | h <;> simp [h]
    have := hp.length_eq
    simpa using this.symm
  unfold walk at h
  obtain ⟨Rs, hRl, hF, hobs⟩ := h
  have key : ∀ (f : Nat) (listed : Array Bool) (a : Act) (w : World), InvT ops [] H T listed → cntU listed H = f → Inv hd.toArray C K1 H.length N Rs (fun q => ∃ i, H[q]? = some i ∧ listed.getD i false = true) a w →
      wpAny P .any ops Q (f + T.length) listed a w := by
    intro f
    induction f with
    | zero =>
      intro listed a w hinv hu hI
      have hlist := cntU_zero hu
      have hlisted : listed = maskA ops.size ([] ++ H) := by
        apply Array.ext
        · simp [maskA, hinv.size]
        · intro i h1 h2
          have hi : i < ops.size := by rw [← hinv.size]; exact h1
          have e1 : listed.getD i true = listed[i] := by simp [h1]
          have e2 : listed.getD i false = listed[i] := by simp [h1]
          simp only [maskA, List.getElem_toArray, List.getElem_map, List.getElem_range]
          rcases hcov i hi with h | h
          · rw [← e1, hlist i h]; simp [h]
          · rw [← e1, hinv.tail i h]
            symm
            rw [← Bool.not_eq_true, List.contains_iff_mem]
            intro hc
            exact hdis2 i (by simpa using hc) i h rfl
      rw [hlisted, Nat.zero_add]
      refine wpAny_seqT T tl _ a w htl hseq ?_
      have hst : St N ((zipK hd Rs).reverse ++ K1) C a w := by
        refine ⟨hI.size, hI.defers, fun t p hp => ?_, hI.cls⟩
        have htake : (zipK hd Rs).take hd.length = zipK hd Rs := List.take_of_length_le (by simp [zipK]; omega)
        rw [lookK_append] at hp
        cases hk : lookK (zipK hd Rs).reverse t with
        | some q =>
          rw [hk] at hp
          have : q = p := by simpa using hp
          subst this
          have hx' : (t, q) ∈ (zipK hd Rs).take hd.length := by
            rw [htake]
            exact List.mem_reverse.1 (lookK_some hk)
          obtain ⟨j, oj, hj, hoj, hx1, hR⟩ := dst_zip hRl hx'
          obtain ⟨i, hi, hoi⟩ := hget' j oj hoj
          obtain ⟨d, hd', _⟩ := (hhead j i oj hi hoi).dst
          have e : t = d := by simp only [hd', Option.getD_some] at hx1; exact hx1
          subst e
          have him : i ∈ H := List.mem_of_getElem? hi
          exact hI.has j oj t q (by omega) ⟨i, hi, getD_t_f hinv.size (hbd i (by simp [him])) (hlist i him)⟩ (by simpa using hoj) hd' hR
        | none =>
          rw [hk] at hp
          refine hI.rest t (fun j oj hj hoj hdj => ?_) p (by simpa using hp)
          have hj' : j < hd.length := by omega
          obtain ⟨R, hR⟩ := mem_zip (i := hd.length) (l := hd) (j := j) (o := oj) hRl hj' (by simpa using hoj) hdj
          rw [htake] at hR
          exact lookK_none hk _ hR rfl
      have hF' := hF
      unfold Sq at hF'
      exact hF' a w hst
    | succ f ih =>
      intro listed a w hinv hu hI
      obtain ⟨p0, i0, hp0, hun0, hbefore⟩ := cntU_pos (listed := listed) (H := H) (by omega)
      have hready : i0 ∈ Region.ready .any ops listed := by
        obtain ⟨o, ho, hH⟩ := headTB_spec hheadB hp0
        refine mem_ready.2 ⟨hun0, o, ho, fun e he hb => ?_⟩
        rcases hH.back e he hb with h | ⟨q, hq, hqe⟩
        · cases h
        · exact getD_t_f hinv.size (hbd _ (by have := List.mem_of_getElem? hqe; simp [this])) (hbefore q _ hq hqe)
      rw [show f + 1 + T.length = (f + T.length) + 1 by omega]
      have hlisH : ∀ j, listed.getD j false = true → j < ops.size → j ∈ H := fun j hj hjs => by
        rcases hcov j hjs with h | h
        · exact h
        · have := hinv.tail j h
          rw [getD_both this] at hj
          cases hj
      by_cases hoz : ∀ p i : Nat, H[p]? = some i → listed.getD i true = false → i = z
      · -- only the floating one is left
        have hi0z : i0 = z := hoz p0 i0 hp0 hun0
        subst hi0z
        have hmask : listed = maskA ops.size (H.filter fun j => j != i0) := by
          apply Array.ext
          · simp [maskA, hinv.size]
          · intro i h1 h2
            have hi : i < ops.size := by rw [← hinv.size]; exact h1
            have e1 : listed.getD i true = listed[i] := by simp [h1]
            simp only [maskA, List.getElem_toArray, List.getElem_map, List.getElem_range]
            rw [← e1]
            cases hb : listed.getD i true with
            | false =>
              symm
              rw [← Bool.not_eq_true, List.contains_iff_mem, List.mem_filter]
              rintro ⟨hc, hne⟩
              obtain ⟨p, hp⟩ := List.mem_iff_getElem?.1 hc
              have := hoz p i hp hb
              simp [this] at hne
            | true =>
              have hl := getD_t_f hinv.size hi hb
              have hne : i ≠ i0 := fun e => by rw [e, hun0] at hb; cases hb
              symm
              rw [List.contains_iff_mem, List.mem_filter]
              exact ⟨hlisH i hl hi, by simpa using hne⟩
        obtain ⟨oz, hoz', hHz⟩ := headTB_spec hheadB hp0
        obtain ⟨d, hd', hdl', hdist⟩ := hHz.dst
        have hoip := hget p0 i0 oz hp0 hoz'
        obtain ⟨R, hR, hob⟩ := hobs p0 oz hoip
        have hdn : ∀ j, Region.waitsFor .any ops i0 j = true → listed.getD j false = true := fun j hj => by
          obtain ⟨hiun, oi, hoi, hwaits⟩ := mem_ready.1 hready
          obtain ⟨o', ho', e, hem, hb, hon⟩ := Region.waitsFor_spec hj
          have : o' = oi := Option.some.inj (ho'.symm.trans hoi)
          subst this
          rw [← hon]
          exact hwaits e hem hb
        have hlooks : ∀ t ∈ oz.looksAt ops, ∀ q, lookK (((zipK hd Rs).take p0).reverse ++ K1) t = some q → okAt q a t w := by
          intro t ht q hq
          obtain ⟨hts, hlk⟩ := hHz.looks t ht
          rw [lookK_append] at hq
          cases hk : lookK ((zipK hd Rs).take p0).reverse t with
          | some q' =>
            rw [hk] at hq
            have : q' = q := by simpa using hq
            subst this
            obtain ⟨j, oj, hj, hoj, hx, hRj⟩ := dst_zip hRl (List.mem_reverse.1 (lookK_some hk))
            obtain ⟨ij, hij, hoij⟩ := hget' j oj hoj
            obtain ⟨dj, hdj, _⟩ := (hhead j ij oj hij hoij).dst
            have hdt : oj.dst = some t := by rw [hdj]; simp only [hdj, Option.getD_some] at hx; rw [hx]
            exact hI.has j oj t q' (by have := (List.getElem?_eq_some_iff.1 hij).1; omega) ⟨ij, hij, hdn ij (hlk j ij oj hij hoij hdt).2⟩ (by simpa using hoj) hdt hRj
          | none =>
            rw [hk] at hq
            refine hI.rest t (fun j oj hj hoj hdj => ?_) q (by simpa using hq)
            obtain ⟨ij, hij, hoij⟩ := hget' j oj (by simpa using hoj)
            have hjp := (hlk j ij oj hij hoij hdj).1
            obtain ⟨R', hR'⟩ := mem_zip (l := hd) hRl hjp (by simpa using hoj) hdj
            exact lookK_none hk _ hR' rfl
        have hoo : oz = o0 := Option.some.inj (hoz'.symm.trans ho0)
        subst hoo
        have hw : Region.wanted oz (yielded ops a.tmps) = true := by unfold Region.wanted; rw [hzg]
        have hgv := hob a w hI.cls hlooks
        rw [if_pos hw] at hgv
        obtain ⟨v, hrun⟩ := hpure a w _ hgv
        have hRv : R.ok v w := by
          unfold gives at hgv
          rw [hrun w] at hgv
          exact hgv.2
        refine wpAny_take hoz' hsel (by rw [hmask]; exact hfree) (by rw [hmask]; exact hrdz) (fun c a' w' hq => by rw [hd'] at hq; exact hQ _ _ _ _ _ hq) (.inl ⟨hw, hrun⟩) ?_
        rw [hd']
        have hwaits := (mem_ready.1 hready)
        obtain ⟨hiun, oi, hoi, hwaits⟩ := hwaits
        have hiH : i0 ∈ H := List.mem_of_getElem? hp0
        refine ih _ _ _ ⟨by simp [hinv.size], fun j oj hj hl e he' hb => ?_, fun x hx => (by cases hx), fun x hx => ?_⟩ ?_ ?_
        · by_cases hij : i0 = j
          · subst hij
            have : oj = oi := Option.some.inj (hj.symm.trans hoi)
            subst this
            exact getD_set_true (hwaits e he' hb)
          · rw [getD_set_ne false hij] at hl
            exact getD_set_true (hinv.closed j oj hj hl e he' hb)
        · rw [getD_set_ne true (fun e => hdis2 i0 hiH x hx e)]
          exact hinv.tail x hx
        · have := cntU_set hiun hndH
          rw [if_pos hiH] at this
          omega
        · have hstep := hI.step (i := p0) (o := oz) (d := d) (R := R) (v := v) (w' := w) hC (Ext.refl w) (by have := (List.getElem?_eq_some_iff.1 hp0).1; omega) (by simpa using hoip) hd' hdl' hR hRv (fun j oj hj hne hoj hdj => by
            obtain ⟨ij, hij, hoij⟩ := hget' j oj (by simpa using hoj)
            rcases Nat.lt_or_gt_of_ne hne with h | h
            · exact hdist j ij oj h hij hoij hdj
            · obtain ⟨dj, hdj', _, hx⟩ := (hhead j ij oj hij hoij).dst
              have : dj = d := Option.some.inj (hdj'.symm.trans hdj)
              subst this
              exact hx p0 i0 oz h hp0 hoz' hd')
          rw [hd'] at hstep
          refine ⟨hstep.cls, hstep.size, hstep.defers, hstep.rest, fun j oj dj Rj hj hdone hoj hdj hRj => hstep.has j oj dj Rj hj ?_ hoj hdj hRj⟩
          obtain ⟨ij, hij, hl⟩ := hdone
          by_cases e : ij = i0
          · refine .inr ?_
            subst e
            have h1 := (List.getElem?_eq_some_iff.1 hij)
            have h2 := (List.getElem?_eq_some_iff.1 hp0)
            exact (List.getElem_inj (h₀ := h1.1) (h₁ := h2.1) hndH).1 (h1.2.trans h2.2.symm)
          · rw [getD_set_ne false (Ne.symm e)] at hl
            exact .inl ⟨ij, hij, hl⟩
      have hoz : ∃ p i : Nat, H[p]? = some i ∧ listed.getD i true = false ∧ i ≠ z := Classical.byContradiction fun h => hoz fun p i h1 h2 => Classical.byContradiction fun h3 => h ⟨p, i, h1, h2, h3⟩
      obtain ⟨pz, iz, hpz, hunz, hnez⟩ := hoz
      refine ⟨fun h0 => (by rw [h0] at hready; cases hready), fun i hi => ?_⟩
      obtain ⟨hiun, oi, hoi, hwaits⟩ := mem_ready.1 hi
      have hisz : i < ops.size := (Array.getElem?_eq_some_iff.1 hoi).1
      have hiH : i ∈ H := by
        rcases hcov i hisz with h | h
        · exact h
        · cases hTe : T with
          | nil => rw [hTe] at h; cases h
          | cons t0 T' =>
            rw [hTe] at hsink
            exact absurd hi (tail_waitsZ hTe hsink hchain hinv (fun x hx => hbd x (by simp [hx])) _ pz iz rfl hpz hunz hnez i h)
      obtain ⟨p, hp⟩ := List.mem_iff_getElem?.1 hiH
      have hH := hhead p i oi hp hoi
      obtain ⟨d, hd', hdl', hdist⟩ := hH.dst
      have hoip := hget p i oi hp hoi
      obtain ⟨R, hR, hob⟩ := hobs p oi hoip
      have hdn : ∀ j, Region.waitsFor .any ops i j = true → listed.getD j false = true := fun j hj => by
        obtain ⟨o', ho', e, hem, hb, hon⟩ := Region.waitsFor_spec hj
        have : o' = oi := Option.some.inj (ho'.symm.trans hoi)
        subst this
        rw [← hon]
        exact hwaits e hem hb
      have hlooks : ∀ t ∈ oi.looksAt ops, ∀ q, lookK (((zipK hd Rs).take p).reverse ++ K1) t = some q → okAt q a t w := by
        intro t ht q hq
        obtain ⟨hts, hlk⟩ := hH.looks t ht
        rw [lookK_append] at hq
        cases hk : lookK ((zipK hd Rs).take p).reverse t with
        | some q' =>
          rw [hk] at hq
          have : q' = q := by simpa using hq
          subst this
          obtain ⟨j, oj, hj, hoj, hx, hRj⟩ := dst_zip hRl (List.mem_reverse.1 (lookK_some hk))
          obtain ⟨ij, hij, hoij⟩ := hget' j oj hoj
          obtain ⟨dj, hdj, _⟩ := (hhead j ij oj hij hoij).dst
          have hdt : oj.dst = some t := by rw [hdj]; simp only [hdj, Option.getD_some] at hx; rw [hx]
          exact hI.has j oj t q' (by have := (List.getElem?_eq_some_iff.1 hij).1; omega) ⟨ij, hij, hdn ij (hlk j ij oj hij hoij hdt).2⟩ (by simpa using hoj) hdt hRj
        | none =>
          rw [hk] at hq
          refine hI.rest t (fun j oj hj hoj hdj => ?_) q (by simpa using hq)
          obtain ⟨ij, hij, hoij⟩ := hget' j oj (by simpa using hoj)
          have hjp := (hlk j ij oj hij hoij hdj).1
          obtain ⟨R', hR'⟩ := mem_zip (l := hd) hRl hjp (by simpa using hoj) hdj
          exact lookK_none hk _ hR' rfl
      unfold wpOp
      simp only [hoi]
      refine ob_step hob hI.cls hlooks fun v w' he hv => ?_
      refine ih _ _ _ ⟨by simp [hinv.size], fun j oj hj hl e he' hb => ?_, fun x hx => (by cases hx), fun x hx => ?_⟩ ?_ ?_
      · by_cases hij : i = j
        · subst hij
          have : oj = oi := Option.some.inj (hj.symm.trans hoi)
          subst this
          exact getD_set_true (hwaits e he' hb)
        · rw [getD_set_ne false hij] at hl
          exact getD_set_true (hinv.closed j oj hj hl e he' hb)
      · rw [getD_set_ne true (fun e => hdis2 i hiH x hx e)]
        exact hinv.tail x hx
      · have := cntU_set hiun hndH
        rw [if_pos hiH] at this
        omega
      · have hstep := hI.step (i := p) (o := oi) (d := d) (R := R) (v := v) (w' := w') hC he (by have := (List.getElem?_eq_some_iff.1 hp).1; omega) (by simpa using hoip) hd' hdl' hR hv (fun j oj hj hne hoj hdj => by
          obtain ⟨ij, hij, hoij⟩ := hget' j oj (by simpa using hoj)
          rcases Nat.lt_or_gt_of_ne hne with h | h
          · exact hdist j ij oj h hij hoij hdj
          · obtain ⟨dj, hdj', _, hx⟩ := (hhead j ij oj hij hoij).dst
            have : dj = d := Option.some.inj (hdj'.symm.trans hdj)
            subst this
            exact hx p i oi h hp hoi hd')
        refine ⟨hstep.cls, hstep.size, hstep.defers, hstep.rest, fun j oj dj Rj hj hdone hoj hdj hRj => hstep.has j oj dj Rj hj ?_ hoj hdj hRj⟩
        obtain ⟨ij, hij, hl⟩ := hdone
        by_cases e : ij = i
        · refine .inr ?_
          subst e
          have h1 := (List.getElem?_eq_some_iff.1 hij)
          have h2 := (List.getElem?_eq_some_iff.1 hp)
          exact (List.getElem_inj (h₀ := h1.1) (h₁ := h2.1) hndH).1 (h1.2.trans h2.2.symm)
        · rw [getD_set_ne false (Ne.symm e)] at hl
          exact .inl ⟨ij, hij, hl⟩
  have hu : cntU (Array.replicate ops.size false) H = H.length := by
    unfold cntU
    rw [List.filter_eq_self.2 fun i hi => by
      have := hbd i (by simp [hi])
      simp [this]]
  have := key H.length (Array.replicate ops.size false) a0 w.drew ⟨by simp, fun j oj _ h => (by rw [getD_replicate_false] at h; cases h), fun x hx => (by cases hx), fun x hx => by have := hbd x (by simp [hx]); simp [this]⟩ hu
    ⟨hst.cls, hst.size, hst.defers, fun t _ p hp => hst.slots t p hp, fun j oj d R _ ⟨i, hi, hl⟩ => by
      rw [getD_replicate_false] at hl
      cases hl⟩
  rw [← hsz] at this
  exact this
theorem pure_extract {d : Option Nat} {x : Operand} {i : Nat} {ty : TypeId} {pos : String} {af : Array Edge} {g : Option (Nat × Bool)} (a : Act) (w : World) (G : Value → World → Prop) (h : gives P ⟨d, .extract x i, ty, pos, af, g⟩ a w G) : ∃ v, ∀ w', (execOp a.eval ⟨d, .extract x i, ty, pos, af, g⟩).run P w' = .ok (.value v) w' := by
  unfold gives at h
  cases hv : a.eval x <;> simp only [execOp, hv, Instr.extract] at h ⊢ <;> first
    | (split at h
       · rename_i u _
         exact ⟨_, fun w' => by simp [*]⟩
       · simp at h)
    | (simp at h; done)
    | (rename_i vs
       by_cases hi : i < vs.size
       · exact ⟨vs[i], fun w' => by simp [hi]⟩
       · simp [hi] at h)
theorem H_drawZ {id : Nat} {l : List Oper} (H T : List Nat) (z : Nat) {o0 : Oper} (hm : P.follows .mixedOrders = true) (hB : drawZB l.toArray N H z T = true) (ho0 : l[z]? = some o0) (hzg : o0.guard = none) (hpure : ∀ (a : Act) (w : World) (G : Value → World → Prop), gives P o0 a w G → ∃ v, ∀ w', (execOp a.eval o0).run P w' = .ok (.value v) w')
    (hC : UpC C) (hQ : ∀ c a w d v, Q (.panic c) (Act.put a (some d) v) w → Q (.panic c) a w) (h : WkH P l.toArray N C Q (pickL l T) K (pickL l H)) : Hc P N K C (.region id l.toArray true) Q := .of fun a w hst => by
  have hb : ∀ i ∈ H ++ T, i < l.length := fun i hi => by
    simp only [drawZB, Bool.and_eq_true] at hB
    simpa using List.all_eq_true.1 hB.1.1.2 i hi
  have hdrew : Ext w w.drew := (Ext.refl w).drew
  unfold WkH at h
  exact region_drawZ H T z o0 _ _ hm hB (by simpa using ho0) hzg hpure (pickL_map fun i hi => hb i (by simp [hi])) (pickL_map fun i hi => hb i (by simp [hi])) hQ hC h
    ⟨hst.size, hst.defers, fun t p hp => (let ⟨v, hv, hk⟩ := hst.slots t p hp; ⟨v, hv, Pr.up_ok hdrew hk⟩), hC _ _ hst.cls hdrew⟩
end
end Go.Proofs.Ytbipnenkgkebjaa

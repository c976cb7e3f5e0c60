/-
  A region that draws its order: what is new in the head is named: the values of the new blocks, that they differ, and what is made of them.
-/
import Derived.Test.YtanlaggnhocjhaaIns
import Derived.Test.YtanlaggnhocjhaaFresh
namespace Go.Proofs.Ytanlaggnhocjhaa
set_option linter.unusedSimpArgs false
set_option linter.unusedVariables false
open Go.RowKit
section
variable {P : Program} {ops : Array Oper} {C : World → Prop} {Q : Exit → Act → World → Prop} {N : Nat} {K : List (Nat × Pr)}
/-- What an operation leaves: a property of its value; a fact of the slots that it wrote and looked at; whether the value is a new block. -/
def ObG (P : Program) (ops : Array Oper) (C : World → Prop) (K : List (Nat × Pr)) (o : Oper) (R : Pr) (F : Act → World → Prop) (fr : Bool) : Prop :=
  ∀ (a : Act) (w : World), C w → (∀ t ∈ o.looksAt ops, ∀ p, lookK K t = some p → okAt p a t w) → (∃ d, o.dst = some d ∧ d < a.tmps.size) →
    if Region.wanted o (yielded ops a.tmps) = true then gives P o a w (fun v w' => Ext w w' ∧ R.ok v w' ∧ F (a.put o.dst v) w' ∧ (fr = true → ∃ g, vblk v = some g ∧ w.heap.size ≤ g ∧ g < w'.heap.size)) else R.ok undef w ∧ F (a.put o.dst undef) w ∧ fr = false
def StabF (ops : Array Oper) (o : Oper) (F : Act → World → Prop) : Prop := ∀ (a : Act) (w : World) (d : Nat) (v : Value) (w' : World), o.dst ≠ some d → d ∉ o.looksAt ops → F a w → Ext w w' → F (a.put (some d) v) w'
def WG (P : Program) (ops : Array Oper) (N : Nat) (C : World → Prop) (Q : Exit → Act → World → Prop) (tl : List Oper) (FS : List Nat) (Fs0 : List (Act → World → Prop)) (K : List (Nat × Pr)) (l : List Oper) : Prop :=
  ∃ (Rs : List Pr) (Fs : List (Act → World → Prop)) (fs : List Bool), Rs.length = l.length ∧ Fs.length = l.length ∧ fs.length = l.length ∧
    (∀ a w, St N ((zipK l Rs).reverse ++ K) C a w → (∀ F ∈ Fs ++ Fs0, F a w) → DisS (newFS l fs ++ FS) a → wpList P ops Q tl a w) ∧
    ∀ (i : Nat) (o : Oper), l[i]? = some o → ∃ R F f, Rs[i]? = some R ∧ Fs[i]? = some F ∧ fs[i]? = some f ∧ StabF ops o F ∧ ObG P ops C (((zipK l Rs).take i).reverse ++ K) o R F f
structure InvG (hd : List Oper) (fs : List Bool) (Fs : List (Act → World → Prop)) (done : Nat → Prop) (a : Act) (w : World) : Prop where
  fct : ∀ q F, done q → Fs[q]? = some F → F a w
  bnd : ∀ (q : Nat) (oq : Oper) (d : Nat), done q → hd[q]? = some oq → oq.dst = some d → fs[q]? = some true → ∃ v g, a.tmps[d]? = some v ∧ vblk v = some g ∧ g < w.heap.size
  dis : ∀ (q r : Nat) (oq or_ : Oper) (d e : Nat) (u v : Value), q ≠ r → done q → done r → hd[q]? = some oq → hd[r]? = some or_ → oq.dst = some d → or_.dst = some e → fs[q]? = some true → fs[r]? = some true → a.tmps[d]? = some u → a.tmps[e]? = some v → vblk u ≠ vblk v
theorem obG_step {a : Act} {w : World} {o : Oper} {K : List (Nat × Pr)} {R : Pr} {F : Act → World → Prop} {fr : Bool} {M : Act → World → Prop} (hob : ObG P ops C K o R F fr) (hc : C w) (hlk : ∀ t ∈ o.looksAt ops, ∀ p, lookK K t = some p → okAt p a t w) (hsz : ∃ d, o.dst = some d ∧ d < a.tmps.size)
    (hN : ∀ v w', Ext w w' → R.ok v w' → F (a.put o.dst v) w' → (fr = true → ∃ g, vblk v = some g ∧ w.heap.size ≤ g ∧ g < w'.heap.size) → M (a.put o.dst v) w') :
    if Region.wanted o (yielded ops a.tmps) = true then o.wp P a w M Q ∨ (o.asks P a w ∧ LetsOut Q) else M (a.put o.dst undef) w := by
  have h1 := hob a w hc hlk hsz
  split
  · rename_i hw
    rw [if_pos hw] at h1
    exact .inl (h1.wp fun v w' ⟨he, hv, hF, hf⟩ => hN v w' he hv hF hf)
  · rename_i hw
    rw [if_neg hw] at h1
    exact hN undef w (Ext.refl _) h1.1 h1.2.1 (fun e => by rw [h1.2.2] at e; cases e)
theorem region_drawG {id : Nat} {K0 : List (Nat × Pr)} (Λ H T : List Nat) (lt hd tl : List Oper) (hm : P.follows .mixedOrders = true) (hB : drawB ops N Λ H T = true)
    (hlt : lt.map some = Λ.map (ops[·]?)) (hhd : hd.map some = H.map (ops[·]?)) (htl : tl.map some = T.map (ops[·]?))
    (hQ : ∀ c a w d v, Q (.panic c) (Act.put a (some d) v) w → Q (.panic c) a w)
    (hC : UpC C) (h : LateW P ops N C (fun K1 => WG P ops N C Q tl [] [] K1 hd) K0 lt) {a0 : Act} {w : World} (hst : St N K0 C a0 w) : (Code.region id ops true).wp P Q a0 w := by
  refine wp_region_any hm ?_
  simp only [drawB, Bool.and_eq_true] at hB
  obtain ⟨⟨⟨⟨⟨⟨⟨⟨hsel, hlate⟩, hheadB⟩, hsink⟩, hchain⟩, hseq⟩, hcov⟩, hnd⟩, hbd⟩ := hB
  have hnd := nodupB_spec hnd
  have hbd : ∀ i ∈ Λ ++ (H ++ T), i < ops.size := fun i hi => by simpa using List.all_eq_true.1 hbd i hi
  have hcov : ∀ i, i < ops.size → i ∈ Λ ∨ i ∈ H ∨ i ∈ T := fun i hi => by
    have := List.all_eq_true.1 hcov i (List.mem_range.2 hi)
    simp only [Bool.or_eq_true, List.contains_iff_mem, decide_eq_true_eq] at this
    rcases this with (h | h) | h
    · exact .inl h
    · exact .inr (.inl h)
    · exact .inr (.inr h)
  obtain ⟨_, hHT, hdis1⟩ := List.nodup_append.1 hnd
  obtain ⟨hndH, _, hdis2⟩ := List.nodup_append.1 hHT
  obtain ⟨hdl, hget, hget'⟩ := map_get hhd
  have hhead : ∀ (p i : Nat) (o : Oper), H[p]? = some i → ops[i]? = some o → HeadT ops N Λ H p i o := fun p i o hp ho => by
    obtain ⟨o', ho', hH⟩ := headTB_spec hheadB hp
    have : o' = o := Option.some.inj (ho'.symm.trans ho)
    subst this
    exact hH
  have hsz : ops.size = Λ.length + (H.length + T.length) := by
    have hp : (Λ ++ (H ++ T)).Perm (List.range ops.size) := (List.perm_ext_iff_of_nodup hnd List.nodup_range).2 fun i => by
      rw [List.mem_range]
      constructor
      · exact hbd i
      · intro hi
        rcases hcov i hi with h | h | h <;> simp [h]
    have := hp.length_eq
    simpa using this.symm
  -- the head, in whatever order
  have phase2 : ∀ (K1 : List (Nat × Pr)), WG P ops N C Q tl [] [] K1 hd → ∀ (listed : Array Bool) (a : Act) (w : World), InvT ops Λ H T listed → (∀ i ∈ H, listed.getD i true = false) → St N K1 C a w → wpAny P .any ops Q (H.length + T.length) listed a w := by
    intro K1 hwalk
    unfold WG at hwalk
    obtain ⟨Rs, Fs, fs, hRl, hFl, hfl, hF, hobs⟩ := hwalk
    have key : ∀ (f : Nat) (listed : Array Bool) (a : Act) (w : World), InvT ops Λ H T listed → cntU listed H = f → Inv hd.toArray C K1 H.length N Rs (fun q => ∃ i, H[q]? = some i ∧ listed.getD i false = true) a w → InvG hd fs Fs (fun q => ∃ i, H[q]? = some i ∧ listed.getD i false = true) a w →
        wpAny P .any ops Q (f + T.length) listed a w := by
      intro f
      induction f with
      | zero =>
        intro listed a w hinv hu hI hG
        have hlist := cntU_zero hu
        have hlisted : listed = maskA ops.size (Λ ++ H) := by
          apply Array.ext
          · simp [maskA, hinv.size]
          · intro i h1 h2
            have hi : i < ops.size := by rw [← hinv.size]; exact h1
            have e1 : listed.getD i true = listed[i] := by simp [h1]
            have e2 : listed.getD i false = listed[i] := by simp [h1]
            simp only [maskA, List.getElem_toArray, List.getElem_map, List.getElem_range]
            rcases hcov i hi with h | h | h
            · rw [← e2, hinv.late i h]; simp [h]
            · rw [← e1, hlist i h]; simp [h]
            · rw [← e1, hinv.tail i h]
              symm
              rw [← Bool.not_eq_true, List.contains_iff_mem]
              intro hc
              rcases List.mem_append.1 hc with hc | hc
              · exact hdis1 i hc i (List.mem_append_right _ h) rfl
              · exact hdis2 i hc i h rfl
        rw [hlisted, Nat.zero_add]
        refine wpAny_seqT T tl _ a w htl hseq ?_
        have hst : St N ((zipK hd Rs).reverse ++ K1) C a w := by
          refine ⟨hI.size, hI.defers, fun t p hp => ?_, hI.cls⟩
          have htake : (zipK hd Rs).take hd.length = zipK hd Rs := List.take_of_length_le (by simp [zipK]; omega)
          rw [lookK_append] at hp
          cases hk : lookK (zipK hd Rs).reverse t with
          | some q =>
            rw [hk] at hp
            have : q = p := by simpa using hp
            subst this
            have hx' : (t, q) ∈ (zipK hd Rs).take hd.length := by
              rw [htake]
              exact List.mem_reverse.1 (lookK_some hk)
            obtain ⟨j, oj, hj, hoj, hx1, hR⟩ := dst_zip hRl hx'
            obtain ⟨i, hi, hoi⟩ := hget' j oj hoj
            obtain ⟨d, hd', _⟩ := (hhead j i oj hi hoi).dst
            have e : t = d := by simp only [hd', Option.getD_some] at hx1; exact hx1
            subst e
            have him : i ∈ H := List.mem_of_getElem? hi
            exact hI.has j oj t q (by omega) ⟨i, hi, getD_t_f hinv.size (hbd i (by simp [him])) (hlist i him)⟩ (by simpa using hoj) hd' hR
          | none =>
            rw [hk] at hp
            refine hI.rest t (fun j oj hj hoj hdj => ?_) p (by simpa using hp)
            have hj' : j < hd.length := by omega
            obtain ⟨R, hR⟩ := mem_zip (i := hd.length) (l := hd) (j := j) (o := oj) hRl hj' (by simpa using hoj) hdj
            rw [htake] at hR
            exact lookK_none hk _ hR rfl
        have hdone : ∀ q, q < hd.length → ∃ i, H[q]? = some i ∧ listed.getD i false = true := fun q hq => by
          have hi : H[q]? = some (H[q]'(by omega)) := List.getElem?_eq_getElem (by omega)
          have him : H[q]'(by omega) ∈ H := List.mem_of_getElem? hi
          exact ⟨_, hi, getD_t_f hinv.size (hbd _ (by simp [him])) (hlist _ him)⟩
        refine hF a w hst (fun F hFm => ?_) ?_
        · rw [List.append_nil] at hFm
          obtain ⟨q, hq⟩ := List.mem_iff_getElem?.1 hFm
          have hql : q < hd.length := by have := (List.getElem?_eq_some_iff.1 hq).1; omega
          exact hG.fct q F (hdone q hql) hq
        · rw [List.append_nil]
          intro s hs t ht hne u v hu' hv'
          obtain ⟨i, oi, hi, hfi, rfl⟩ := newFS_mem hs
          obtain ⟨j, oj, hj, hfj, rfl⟩ := newFS_mem ht
          obtain ⟨ii, hii, hoii⟩ := hget' i oi hi
          obtain ⟨jj, hjj, hojj⟩ := hget' j oj hj
          obtain ⟨di, hdi, _⟩ := (hhead i ii oi hii hoii).dst
          obtain ⟨dj, hdj, _⟩ := (hhead j jj oj hjj hojj).dst
          have hij : i ≠ j := fun e => by
            subst e
            have : oi = oj := Option.some.inj (hi.symm.trans hj)
            subst this
            exact hne rfl
          rw [hdi] at hu' hne
          rw [hdj] at hv' hne
          simp only [Option.getD_some] at hu' hv' hne
          exact hG.dis i j oi oj di dj u v hij (hdone i (List.getElem?_eq_some_iff.1 hi).1) (hdone j (List.getElem?_eq_some_iff.1 hj).1) hi hj hdi hdj hfi hfj hu' hv'
      | succ f ih =>
        intro listed a w hinv hu hI hG
        obtain ⟨p0, i0, hp0, hun0, hbefore⟩ := cntU_pos (listed := listed) (H := H) (by omega)
        have hready : i0 ∈ Region.ready .any ops listed := by
          obtain ⟨o, ho, hH⟩ := headTB_spec hheadB hp0
          refine mem_ready.2 ⟨hun0, o, ho, fun e he hb => ?_⟩
          rcases hH.back e he hb with h | ⟨q, hq, hqe⟩
          · exact hinv.late _ h
          · exact getD_t_f hinv.size (hbd _ (by have := List.mem_of_getElem? hqe; simp [this])) (hbefore q _ hq hqe)
        rw [show f + 1 + T.length = (f + T.length) + 1 by omega]
        refine ⟨fun h0 => (by rw [h0] at hready; cases hready), fun i hi => ?_⟩
        obtain ⟨hiun, oi, hoi, hwaits⟩ := mem_ready.1 hi
        have hisz : i < ops.size := (Array.getElem?_eq_some_iff.1 hoi).1
        have hiH : i ∈ H := by
          rcases hcov i hisz with h | h | h
          · have := hinv.late i h
            rw [getD_both hiun] at this
            cases this
          · exact h
          · cases hTe : T with
            | nil => rw [hTe] at h; cases h
            | cons t0 T' =>
              rw [hTe] at hsink
              exact absurd hi (tail_waitsT hTe hsink hchain hinv (fun x hx => hbd x (by simp [hx])) _ p0 i0 rfl hp0 hun0 i h)
        obtain ⟨p, hp⟩ := List.mem_iff_getElem?.1 hiH
        have hH := hhead p i oi hp hoi
        obtain ⟨d, hd', hdl', hdist⟩ := hH.dst
        have hoip := hget p i oi hp hoi
        obtain ⟨R, F, f', hR, hFp, hfp, hstab, hob⟩ := hobs p oi hoip
        have hdn : ∀ j, Region.waitsFor .any ops i j = true → listed.getD j false = true := fun j hj => by
          obtain ⟨o', ho', e, hem, hb, hon⟩ := Region.waitsFor_spec hj
          have : o' = oi := Option.some.inj (ho'.symm.trans hoi)
          subst this
          rw [← hon]
          exact hwaits e hem hb
        have hlooks : ∀ t ∈ oi.looksAt ops, ∀ q, lookK (((zipK hd Rs).take p).reverse ++ K1) t = some q → okAt q a t w := by
          intro t ht q hq
          obtain ⟨hts, hlk⟩ := hH.looks t ht
          rw [lookK_append] at hq
          cases hk : lookK ((zipK hd Rs).take p).reverse t with
          | some q' =>
            rw [hk] at hq
            have : q' = q := by simpa using hq
            subst this
            obtain ⟨j, oj, hj, hoj, hx, hRj⟩ := dst_zip hRl (List.mem_reverse.1 (lookK_some hk))
            obtain ⟨ij, hij, hoij⟩ := hget' j oj hoj
            obtain ⟨dj, hdj, _⟩ := (hhead j ij oj hij hoij).dst
            have hdt : oj.dst = some t := by rw [hdj]; simp only [hdj, Option.getD_some] at hx; rw [hx]
            exact hI.has j oj t q' (by have := (List.getElem?_eq_some_iff.1 hij).1; omega) ⟨ij, hij, hdn ij (hlk j ij oj hij hoij hdt).2⟩ (by simpa using hoj) hdt hRj
          | none =>
            rw [hk] at hq
            refine hI.rest t (fun j oj hj hoj hdj => ?_) q (by simpa using hq)
            obtain ⟨ij, hij, hoij⟩ := hget' j oj (by simpa using hoj)
            have hjp := (hlk j ij oj hij hoij hdj).1
            obtain ⟨R', hR'⟩ := mem_zip (l := hd) hRl hjp (by simpa using hoj) hdj
            exact lookK_none hk _ hR' rfl
        have wasdone : ∀ j, (∃ i', H[j]? = some i' ∧ (listed.setIfInBounds i true).getD i' false = true) → (∃ i', H[j]? = some i' ∧ listed.getD i' false = true) ∨ j = p := fun j ⟨ij, hij, hl⟩ => by
          by_cases e : ij = i
          · refine .inr ?_
            subst e
            have h1 := (List.getElem?_eq_some_iff.1 hij)
            have h2 := (List.getElem?_eq_some_iff.1 hp)
            exact (List.getElem_inj (h₀ := h1.1) (h₁ := h2.1) hndH).1 (h1.2.trans h2.2.symm)
          · rw [getD_set_ne false (Ne.symm e)] at hl
            exact .inl ⟨ij, hij, hl⟩
        have hpl : p < hd.length := (List.getElem?_eq_some_iff.1 hoip).1
        have hnotdone : ¬ ∃ i', H[p]? = some i' ∧ listed.getD i' false = true := fun ⟨i', h1, h2⟩ => by
          have : i' = i := Option.some.inj (h1.symm.trans hp)
          subst this
          rw [getD_both hiun] at h2
          cases h2
        unfold wpOp
        simp only [hoi]
        refine obG_step hob hI.cls hlooks ⟨d, hd', by rw [hI.size]; exact hdl'⟩ fun v w' he hv hFv hfr => ?_
        rw [hd'] at hFv
        refine ih _ _ _ ⟨by simp [hinv.size], fun j oj hj hl e he' hb => ?_, fun x hx => getD_set_true (hinv.late x hx), fun x hx => ?_⟩ ?_ ?_ ?_
        · by_cases hij : i = j
          · subst hij
            have : oj = oi := Option.some.inj (hj.symm.trans hoi)
            subst this
            exact getD_set_true (hwaits e he' hb)
          · rw [getD_set_ne false hij] at hl
            exact getD_set_true (hinv.closed j oj hj hl e he' hb)
        · rw [getD_set_ne true (fun e => hdis2 i hiH x hx e)]
          exact hinv.tail x hx
        · have := cntU_set hiun hndH
          rw [if_pos hiH] at this
          omega
        · have hstep := hI.step (i := p) (o := oi) (d := d) (R := R) (v := v) (w' := w') hC he (by have := (List.getElem?_eq_some_iff.1 hp).1; omega) (by simpa using hoip) hd' hdl' hR hv (fun j oj hj hne hoj hdj => by
            obtain ⟨ij, hij, hoij⟩ := hget' j oj (by simpa using hoj)
            rcases Nat.lt_or_gt_of_ne hne with h | h
            · exact hdist j ij oj h hij hoij hdj
            · obtain ⟨dj, hdj', _, hx⟩ := (hhead j ij oj hij hoij).dst
              have : dj = d := Option.some.inj (hdj'.symm.trans hdj)
              subst this
              exact hx p i oi h hp hoi hd')
          refine ⟨hstep.cls, hstep.size, hstep.defers, hstep.rest, fun j oj dj Rj hj hdone hoj hdj hRj => hstep.has j oj dj Rj hj (wasdone j hdone) hoj hdj hRj⟩
        · have hnd : ∀ (j : Nat) (oj : Oper), hd[j]? = some oj → j ≠ p → oj.dst ≠ some d := fun j oj hoj hne hdj => by
            obtain ⟨ij, hij, hoij⟩ := hget' j oj hoj
            rcases Nat.lt_or_gt_of_ne hne with h | h
            · exact hdist j ij oj h hij hoij hdj
            · obtain ⟨dj, hdj', _, hx⟩ := (hhead j ij oj hij hoij).dst
              have : dj = d := Option.some.inj (hdj'.symm.trans hdj)
              subst this
              exact hx p i oi h hp hoi hd'
          have hsz' : d < a.tmps.size := by rw [hI.size]; exact hdl'
          have hsame : ∀ e, e ≠ d → (a.put oi.dst v).tmps[e]? = a.tmps[e]? := fun e he => by rw [hd']; simp [Act.put, Array.getElem?_setIfInBounds, Ne.symm he]
          have hmine : (a.put oi.dst v).tmps[d]? = some v := by rw [hd']; simp [Act.put, Array.getElem?_setIfInBounds, hsz']
          refine ⟨fun q F' hq hFq => ?_, fun q oq dq hq hoq hdq hfq => ?_, fun q r oq or_ dq dr u u' hqr hq hr hoq hor hdq hdr hfq hfr' hu1 hu2 => ?_⟩
          · rcases wasdone q hq with hq | rfl
            · obtain ⟨iq, hiq, hlq⟩ := hq
              obtain ⟨oq, hoq, hHq⟩ := headTB_spec hheadB hiq
              have hoqd := hget q iq oq hiq hoq
              obtain ⟨Rq, Fq, fq, hRq, hFq', hfq, hstabq, _⟩ := hobs q oq hoqd
              have : Fq = F' := Option.some.inj (hFq'.symm.trans hFq)
              subst this
              have hqp : q ≠ p := fun e => by subst e; exact hnotdone ⟨iq, hiq, hlq⟩
              rw [hd']
              refine hstabq a w d v w' (hnd q oq hoqd hqp) (fun hlk => ?_) (hG.fct q Fq ⟨iq, hiq, hlq⟩ hFq) he
              have h2 := ((hHq.looks d hlk).2 p i oi hp hoi hd').2
              obtain ⟨o', ho', e, hem, hb, hon⟩ := Region.waitsFor_spec h2
              have : o' = oq := Option.some.inj (ho'.symm.trans hoq)
              subst this
              have h3 := hinv.closed iq o' hoq hlq e hem hb
              rw [hon, getD_both hiun] at h3
              cases h3
            · have : F = F' := Option.some.inj (hFp.symm.trans hFq)
              subst this
              rw [hd']
              exact hFv
          · rcases wasdone q hq with hq | rfl
            · have hqp : q ≠ p := fun e => by subst e; exact hnotdone hq
              have hne : dq ≠ d := fun e => hnd q oq hoq hqp (e ▸ hdq)
              obtain ⟨v', g', h1, h2, h3⟩ := hG.bnd q oq dq hq hoq hdq hfq
              exact ⟨v', g', by rw [hsame dq hne]; exact h1, h2, Nat.lt_of_lt_of_le h3 he.size⟩
            · have e1 : oq = oi := Option.some.inj (hoq.symm.trans hoip)
              subst e1
              have e2 : dq = d := Option.some.inj (hdq.symm.trans hd')
              subst e2
              have e3 : f' = true := Option.some.inj (hfp.symm.trans hfq)
              obtain ⟨g', h1, h2, h3⟩ := hfr e3
              exact ⟨v, g', hmine, h1, h3⟩
          · have isp : ∀ (q : Nat) (oq : Oper) (dq : Nat) (u : Value), (∃ i, H[q]? = some i ∧ listed.getD i false = true) → hd[q]? = some oq → oq.dst = some dq → fs[q]? = some true → (a.put oi.dst v).tmps[dq]? = some u → ∃ g, vblk u = some g ∧ g < w.heap.size := fun q oq dq u hq hoq hdq hfq hu => by
              have hqp : q ≠ p := fun e => by subst e; exact hnotdone hq
              have hne : dq ≠ d := fun e => hnd q oq hoq hqp (e ▸ hdq)
              obtain ⟨v', g', h1, h2, h3⟩ := hG.bnd q oq dq hq hoq hdq hfq
              rw [hsame dq hne, h1] at hu
              injection hu with hu
              subst hu
              exact ⟨g', h2, h3⟩
            have isn : ∀ (oq : Oper) (dq : Nat) (u : Value), hd[p]? = some oq → oq.dst = some dq → fs[p]? = some true → (a.put oi.dst v).tmps[dq]? = some u → ∃ g, vblk u = some g ∧ w.heap.size ≤ g := fun oq dq u hoq hdq hfq hu => by
              have e1 : oq = oi := Option.some.inj (hoq.symm.trans hoip)
              subst e1
              have e2 : dq = d := Option.some.inj (hdq.symm.trans hd')
              subst e2
              have e3 : f' = true := Option.some.inj (hfp.symm.trans hfq)
              rw [hmine] at hu
              injection hu with hu
              subst hu
              obtain ⟨g', h1, h2, h3⟩ := hfr e3
              exact ⟨g', h1, h2⟩
            rcases wasdone q hq with hq' | rfl
            · rcases wasdone r hr with hr' | rfl
              · have hqp : q ≠ p := fun e => by subst e; exact hnotdone hq'
                have hrp : r ≠ p := fun e => by subst e; exact hnotdone hr'
                have hne1 : dq ≠ d := fun e => hnd q oq hoq hqp (e ▸ hdq)
                have hne2 : dr ≠ d := fun e => hnd r or_ hor hrp (e ▸ hdr)
                rw [hsame dq hne1] at hu1
                rw [hsame dr hne2] at hu2
                exact hG.dis q r oq or_ dq dr u u' hqr hq' hr' hoq hor hdq hdr hfq hfr' hu1 hu2
              · obtain ⟨g1, h1, h2⟩ := isp q oq dq u hq' hoq hdq hfq hu1
                obtain ⟨g2, h3, h4⟩ := isn or_ dr u' hor hdr hfr' hu2
                rw [h1, h3]
                intro e
                injection e with e
                omega
            · rcases wasdone r hr with hr' | e
              · obtain ⟨g1, h1, h2⟩ := isn oq dq u hoq hdq hfq hu1
                obtain ⟨g2, h3, h4⟩ := isp r or_ dr u' hr' hor hdr hfr' hu2
                rw [h1, h3]
                intro e
                injection e with e
                omega
              · exact absurd e.symm hqr
    intro listed a w hinv hun hst
    have hnone : ∀ q : Nat, ¬ ∃ i : Nat, H[q]? = some i ∧ listed.getD i false = true := fun q ⟨i, hi, hl⟩ => by
      rw [getD_both (hun i (List.mem_of_getElem? hi))] at hl
      cases hl
    have hu : cntU listed H = H.length := by
      unfold cntU
      rw [List.filter_eq_self.2 fun i hi => by rw [hun i hi]; rfl]
    have := key H.length listed a w hinv hu ⟨hst.cls, hst.size, hst.defers, fun t _ p hp => hst.slots t p hp, fun j oj d R _ ⟨i, hi, hl⟩ => by
      rw [getD_both (hun i (List.mem_of_getElem? hi))] at hl
      cases hl⟩ ⟨fun q F hq => absurd hq (hnone q), fun q oq dq hq => absurd hq (hnone q), fun q r oq or_ dq dr u u' _ hq => absurd hq (hnone q)⟩
    exact this
  -- those that come first
  have phase1 : ∀ (Λ' D : List Nat) (lt' : List Oper) (K : List (Nat × Pr)) (listed : Array Bool) (a : Act) (w : World), Λ = D ++ Λ' → lt'.map some = Λ'.map (ops[·]?) → listed.size = ops.size →
      (∀ j oj, ops[j]? = some oj → listed.getD j false = true → ∀ e ∈ oj.after, Region.binds .any e = true → listed.getD e.on false = true) → (∀ i ∈ D, listed.getD i false = true) → (∀ i ∈ H ++ T, listed.getD i true = false) →
      lateTB ops Λ' listed = true → LateW P ops N C (fun K1 => WG P ops N C Q tl [] [] K1 hd) K lt' → St N K C a w → wpAny P .any ops Q (Λ'.length + (H.length + T.length)) listed a w := by
    intro Λ'
    induction Λ' with
    | nil =>
      intro D lt' K listed a w hΛ hlt hs hcl hD hun _ hW hst
      have : lt' = [] := by simpa using hlt
      subst this
      rw [List.length_nil, Nat.zero_add]
      rw [List.append_nil] at hΛ
      subst hΛ
      unfold LateW at hW
      exact phase2 K hW listed a w ⟨hs, hcl, hD, fun t ht => hun t (List.mem_append_right _ ht)⟩ (fun i hi => hun i (List.mem_append_left _ hi)) hst
    | cons i Λ' ih =>
      intro D lt' K listed a w hΛ hlt hs hcl hD hun hB hW hst
      cases lt' with
      | nil => simp at hlt
      | cons o lt' =>
        simp only [List.map_cons, List.cons.injEq] at hlt
        obtain ⟨hoi, hlt⟩ := hlt
        simp only [lateTB, Bool.and_eq_true] at hB
        obtain ⟨⟨⟨hgd, hrd⟩, hfr⟩, hrest⟩ := hB
        rw [← hoi] at hgd
        simp only at hgd
        have hg : o.guard = none := by simpa using hgd
        have hw : Region.wanted o (yielded ops a.tmps) = true := by simp [Region.wanted, hg]
        have hrd' : i ∈ Region.ready .any ops listed := by simpa using hrd
        obtain ⟨hiun, oi, hoi', hwaits⟩ := mem_ready.1 hrd'
        have : oi = o := Option.some.inj (hoi'.symm.trans hoi.symm)
        subst this
        unfold LateW at hW
        obtain ⟨d, R, hd', hdN, hpure, hW⟩ := hW
        obtain ⟨v, hrun, hR⟩ := hpure a w hst.cls fun t _ p hp => hst.slots t p hp
        rw [show (i :: Λ').length + (H.length + T.length) = (Λ'.length + (H.length + T.length)) + 1 by rw [List.length_cons]; omega]
        refine wpAny_take hoi.symm hsel hfr hrd (fun c a' w' hq => by rw [hd'] at hq; exact hQ _ _ _ _ _ hq) (.inl ⟨hw, hrun⟩) ?_
        rw [hd']
        refine ih (D ++ [i]) lt' ((d, R) :: K) _ _ w (by rw [hΛ, List.append_assoc]; rfl) hlt (by simp [hs]) (fun j oj hj hl e he' hb => ?_) (fun x hx => ?_) (fun x hx => ?_) hrest hW (hst.step hC (Ext.refl w) hdN hR)
        · by_cases hij : i = j
          · subst hij
            have : oj = oi := Option.some.inj (hj.symm.trans hoi')
            subst this
            exact getD_set_true (hwaits e he' hb)
          · rw [getD_set_ne false hij] at hl
            exact getD_set_true (hcl j oj hj hl e he' hb)
        · rcases List.mem_append.1 hx with hx | hx
          · exact getD_set_true (hD x hx)
          · have : x = i := by simpa using hx
            subst this
            have : x < listed.size := by rw [hs]; exact (Array.getElem?_eq_some_iff.1 hoi').1
            simp [this]
        · rw [getD_set_ne true (fun e => hdis1 i (by rw [hΛ]; simp) x hx e)]
          exact hun x hx
  have hdrew : Ext w w.drew := (Ext.refl w).drew
  have := phase1 Λ [] lt K0 (Array.replicate ops.size false) a0 w.drew rfl hlt (by simp) (fun j oj _ h => by rw [getD_replicate_false] at h; cases h) (fun i hi => by cases hi)
    (fun i hi => by have := hbd i (List.mem_append_right _ hi); simp [this]) hlate h ⟨hst.size, hst.defers, fun t p hp => (let ⟨v, hv, hk⟩ := hst.slots t p hp; ⟨v, hv, Pr.up_ok hdrew hk⟩), hC _ _ hst.cls hdrew⟩
  rw [← hsz] at this
  exact this
end
attribute [irreducible] WG
end Go.Proofs.Ytanlaggnhocjhaa

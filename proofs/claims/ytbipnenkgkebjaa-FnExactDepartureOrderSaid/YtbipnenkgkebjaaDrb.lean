/- A region that draws its order in which one operation writes into memory of one's own, and others come behind that in any order. -/
import Derived.Test.YtbipnenkgkebjaaDra
namespace Go.Proofs.Ytbipnenkgkebjaa
set_option linter.unusedSimpArgs false
set_option linter.unusedVariables false
open Go.RowKit
def gateTB (ops : Array Oper) (T : List Nat) : Bool :=
  (List.range T.length).all fun p => p == 0 || (T.take p).any fun j => Region.waitsFor .any ops ((T[p]?).getD 0) j
def drawGB (ops : Array Oper) (sz : Nat) (H H2 T2 : List Nat) : Bool :=
  Region.noSelect ops && headTB ops sz [] H && (match H2 ++ T2 with | [] => true | t0 :: _ => sinkTB ops H t0) && gateTB ops (H2 ++ T2) &&
  ((List.range ops.size).all fun i => H.contains i || (H2 ++ T2).contains i) && nodupB (H ++ (H2 ++ T2)) && (H ++ (H2 ++ T2)).all (fun i => decide (i < ops.size)) &&
  headTB ops sz H H2 && (match T2 with | [] => true | t0 :: _ => sinkTB ops H2 t0) && chainTB ops T2 && seqTB ops T2 (maskA ops.size (H ++ H2))
section
variable {P : Program} {ops : Array Oper} {C : World → Prop} {Q : Exit → Act → World → Prop} {N : Nat}
/-- Operations that only make memory, in any order, behind others. -/
theorem wpAny_head (Λ H T : List Nat) (hd tl : List Oper) (hheadB : headTB ops N Λ H = true) (hsink : (match T with | [] => true | t0 :: _ => sinkTB ops H t0) = true) (hchain : chainTB ops T = true) (hseq : seqTB ops T (maskA ops.size (Λ ++ H)) = true)
    (hcov : ∀ i, i < ops.size → i ∈ Λ ∨ i ∈ H ∨ i ∈ T) (hnd : (Λ ++ (H ++ T)).Nodup) (hbd : ∀ i ∈ Λ ++ (H ++ T), i < ops.size)
    (hhd : hd.map some = H.map (ops[·]?)) (htl : tl.map some = T.map (ops[·]?)) (hC : UpC C) {K1 : List (Nat × Pr)} (hwalk : walk P ops C (fun K => Sq P ops N C Q K tl) K1 hd) :
    ∀ (listed : Array Bool) (a : Act) (w : World), InvT ops Λ H T listed → (∀ i ∈ H, listed.getD i true = false) → St N K1 C a w → wpAny P .any ops Q (H.length + T.length) listed a w := by
  obtain ⟨_, hHT, hdis1⟩ := List.nodup_append.1 hnd
  obtain ⟨hndH, _, hdis2⟩ := List.nodup_append.1 hHT
  obtain ⟨hdl, hget, hget'⟩ := map_get hhd
  have hhead : ∀ (p i : Nat) (o : Oper), H[p]? = some i → ops[i]? = some o → HeadT ops N Λ H p i o := fun p i o hp ho => by
    obtain ⟨o', ho', hH⟩ := headTB_spec hheadB hp
    have : o' = o := Option.some.inj (ho'.symm.trans ho)
    subst this
    exact hH
  unfold walk at hwalk
  obtain ⟨Rs, hRl, hF, hobs⟩ := hwalk
  have key : ∀ (f : Nat) (listed : Array Bool) (a : Act) (w : World), InvT ops Λ H T listed → cntU listed H = f → Inv hd.toArray C K1 H.length N Rs (fun q => ∃ i, H[q]? = some i ∧ listed.getD i false = true) a w →
      wpAny P .any ops Q (f + T.length) listed a w := by
    intro f
    induction f with
    | zero =>
      intro listed a w hinv hu hI
      have hlist := cntU_zero hu
      have hlisted : listed = maskA ops.size (Λ ++ H) := by
        apply Array.ext
        · simp [maskA, hinv.size]
        · intro i h1 h2
          have hi : i < ops.size := by rw [← hinv.size]; exact h1
          have e1 : listed.getD i true = listed[i] := by simp [h1]
          have e2 : listed.getD i false = listed[i] := by simp [h1]
          simp only [maskA, List.getElem_toArray, List.getElem_map, List.getElem_range]
          rcases hcov i hi with h | h | h
          · rw [← e2, hinv.late i h]; simp [h]
          · rw [← e1, hlist i h]; simp [h]
          · rw [← e1, hinv.tail i h]
            symm
            rw [← Bool.not_eq_true, List.contains_iff_mem]
            intro hc
            rcases List.mem_append.1 hc with hc | hc
            · exact hdis1 i hc i (List.mem_append_right _ h) rfl
            · exact hdis2 i hc i h rfl
      rw [hlisted, Nat.zero_add]
      refine wpAny_seqT T tl _ a w htl hseq ?_
      have hst : St N ((zipK hd Rs).reverse ++ K1) C a w := by
        refine ⟨hI.size, hI.defers, fun t p hp => ?_, hI.cls⟩
        have htake : (zipK hd Rs).take hd.length = zipK hd Rs := List.take_of_length_le (by simp [zipK]; omega)
        rw [lookK_append] at hp
        cases hk : lookK (zipK hd Rs).reverse t with
        | some q =>
          rw [hk] at hp
          have : q = p := by simpa using hp
          subst this
          have hx' : (t, q) ∈ (zipK hd Rs).take hd.length := by
            rw [htake]
            exact List.mem_reverse.1 (lookK_some hk)
          obtain ⟨j, oj, hj, hoj, hx1, hR⟩ := dst_zip hRl hx'
          obtain ⟨i, hi, hoi⟩ := hget' j oj hoj
          obtain ⟨d, hd', _⟩ := (hhead j i oj hi hoi).dst
          have e : t = d := by simp only [hd', Option.getD_some] at hx1; exact hx1
          subst e
          have him : i ∈ H := List.mem_of_getElem? hi
          exact hI.has j oj t q (by omega) ⟨i, hi, getD_t_f hinv.size (hbd i (by simp [him])) (hlist i him)⟩ (by simpa using hoj) hd' hR
        | none =>
          rw [hk] at hp
          refine hI.rest t (fun j oj hj hoj hdj => ?_) p (by simpa using hp)
          have hj' : j < hd.length := by omega
          obtain ⟨R, hR⟩ := mem_zip (i := hd.length) (l := hd) (j := j) (o := oj) hRl hj' (by simpa using hoj) hdj
          rw [htake] at hR
          exact lookK_none hk _ hR rfl
      have hF' := hF
      unfold Sq at hF'
      exact hF' a w hst
    | succ f ih =>
      intro listed a w hinv hu hI
      obtain ⟨p0, i0, hp0, hun0, hbefore⟩ := cntU_pos (listed := listed) (H := H) (by omega)
      have hready : i0 ∈ Region.ready .any ops listed := by
        obtain ⟨o, ho, hH⟩ := headTB_spec hheadB hp0
        refine mem_ready.2 ⟨hun0, o, ho, fun e he hb => ?_⟩
        rcases hH.back e he hb with h | ⟨q, hq, hqe⟩
        · exact hinv.late _ h
        · exact getD_t_f hinv.size (hbd _ (by have := List.mem_of_getElem? hqe; simp [this])) (hbefore q _ hq hqe)
      rw [show f + 1 + T.length = (f + T.length) + 1 by omega]
      refine ⟨fun h0 => (by rw [h0] at hready; cases hready), fun i hi => ?_⟩
      obtain ⟨hiun, oi, hoi, hwaits⟩ := mem_ready.1 hi
      have hisz : i < ops.size := (Array.getElem?_eq_some_iff.1 hoi).1
      have hiH : i ∈ H := by
        rcases hcov i hisz with h | h | h
        · have := hinv.late i h
          rw [getD_both hiun] at this
          cases this
        · exact h
        · cases hTe : T with
          | nil => rw [hTe] at h; cases h
          | cons t0 T' =>
            rw [hTe] at hsink
            exact absurd hi (tail_waitsT hTe hsink hchain hinv (fun x hx => hbd x (by simp [hx])) _ p0 i0 rfl hp0 hun0 i h)
      obtain ⟨p, hp⟩ := List.mem_iff_getElem?.1 hiH
      have hH := hhead p i oi hp hoi
      obtain ⟨d, hd', hdl', hdist⟩ := hH.dst
      have hoip := hget p i oi hp hoi
      obtain ⟨R, hR, hob⟩ := hobs p oi hoip
      have hdn : ∀ j, Region.waitsFor .any ops i j = true → listed.getD j false = true := fun j hj => by
        obtain ⟨o', ho', e, hem, hb, hon⟩ := Region.waitsFor_spec hj
        have : o' = oi := Option.some.inj (ho'.symm.trans hoi)
        subst this
        rw [← hon]
        exact hwaits e hem hb
      have hlooks : ∀ t ∈ oi.looksAt ops, ∀ q, lookK (((zipK hd Rs).take p).reverse ++ K1) t = some q → okAt q a t w := by
        intro t ht q hq
        obtain ⟨hts, hlk⟩ := hH.looks t ht
        rw [lookK_append] at hq
        cases hk : lookK ((zipK hd Rs).take p).reverse t with
        | some q' =>
          rw [hk] at hq
          have : q' = q := by simpa using hq
          subst this
          obtain ⟨j, oj, hj, hoj, hx, hRj⟩ := dst_zip hRl (List.mem_reverse.1 (lookK_some hk))
          obtain ⟨ij, hij, hoij⟩ := hget' j oj hoj
          obtain ⟨dj, hdj, _⟩ := (hhead j ij oj hij hoij).dst
          have hdt : oj.dst = some t := by rw [hdj]; simp only [hdj, Option.getD_some] at hx; rw [hx]
          exact hI.has j oj t q' (by have := (List.getElem?_eq_some_iff.1 hij).1; omega) ⟨ij, hij, hdn ij (hlk j ij oj hij hoij hdt).2⟩ (by simpa using hoj) hdt hRj
        | none =>
          rw [hk] at hq
          refine hI.rest t (fun j oj hj hoj hdj => ?_) q (by simpa using hq)
          obtain ⟨ij, hij, hoij⟩ := hget' j oj (by simpa using hoj)
          have hjp := (hlk j ij oj hij hoij hdj).1
          obtain ⟨R', hR'⟩ := mem_zip (l := hd) hRl hjp (by simpa using hoj) hdj
          exact lookK_none hk _ hR' rfl
      unfold wpOp
      simp only [hoi]
      refine ob_step hob hI.cls hlooks fun v w' he hv => ?_
      refine ih _ _ _ ⟨by simp [hinv.size], fun j oj hj hl e he' hb => ?_, fun x hx => getD_set_true (hinv.late x hx), fun x hx => ?_⟩ ?_ ?_
      · by_cases hij : i = j
        · subst hij
          have : oj = oi := Option.some.inj (hj.symm.trans hoi)
          subst this
          exact getD_set_true (hwaits e he' hb)
        · rw [getD_set_ne false hij] at hl
          exact getD_set_true (hinv.closed j oj hj hl e he' hb)
      · rw [getD_set_ne true (fun e => hdis2 i hiH x hx e)]
        exact hinv.tail x hx
      · have := cntU_set hiun hndH
        rw [if_pos hiH] at this
        omega
      · have hstep := hI.step (i := p) (o := oi) (d := d) (R := R) (v := v) (w' := w') hC he (by have := (List.getElem?_eq_some_iff.1 hp).1; omega) (by simpa using hoip) hd' hdl' hR hv (fun j oj hj hne hoj hdj => by
          obtain ⟨ij, hij, hoij⟩ := hget' j oj (by simpa using hoj)
          rcases Nat.lt_or_gt_of_ne hne with h | h
          · exact hdist j ij oj h hij hoij hdj
          · obtain ⟨dj, hdj', _, hx⟩ := (hhead j ij oj hij hoij).dst
            have : dj = d := Option.some.inj (hdj'.symm.trans hdj)
            subst this
            exact hx p i oi h hp hoi hd')
        refine ⟨hstep.cls, hstep.size, hstep.defers, hstep.rest, fun j oj dj Rj hj hdone hoj hdj hRj => hstep.has j oj dj Rj hj ?_ hoj hdj hRj⟩
        obtain ⟨ij, hij, hl⟩ := hdone
        by_cases e : ij = i
        · refine .inr ?_
          subst e
          have h1 := (List.getElem?_eq_some_iff.1 hij)
          have h2 := (List.getElem?_eq_some_iff.1 hp)
          exact (List.getElem_inj (h₀ := h1.1) (h₁ := h2.1) hndH).1 (h1.2.trans h2.2.symm)
        · rw [getD_set_ne false (Ne.symm e)] at hl
          exact .inl ⟨ij, hij, hl⟩
  intro listed a w hinv hun hst
  have hu : cntU listed H = H.length := by
    unfold cntU
    rw [List.filter_eq_self.2 fun i hi => by rw [hun i hi]; rfl]
  have := key H.length listed a w hinv hu ⟨hst.cls, hst.size, hst.defers, fun t _ p hp => hst.slots t p hp, fun j oj d R _ ⟨i, hi, hl⟩ => by
    rw [getD_both (hun i (List.mem_of_getElem? hi))] at hl
    cases hl⟩
  exact this
end
/-- As long as one of the head waits, nothing of the rest is ready. -/
theorem tail_waitsG {ops : Array Oper} {H T : List Nat} {listed : Array Bool} {t0 : Nat} {T' : List Nat} (hT : T = t0 :: T') (hs : sinkTB ops H t0 = true) (hc : gateTB ops T = true) (inv : InvT ops [] H T listed) (hlt : ∀ i ∈ H, i < ops.size) {p i : Nat} (hp : H[p]? = some i) (hun : listed.getD i true = false) : ∀ t ∈ T, t ∉ Region.ready .any ops listed := by
  intro t ht hr
  obtain ⟨q, hq⟩ := List.mem_iff_getElem?.1 ht
  have hql : q < T.length := (List.getElem?_eq_some_iff.1 hq).1
  cases q with
  | zero =>
    rw [hT] at hq
    have e : t0 = t := by simpa using hq
    subst e
    have inv' : InvT ops [] H [t0] listed := ⟨inv.size, inv.closed, inv.late, fun x hx => inv.tail x (by rw [hT]; simp at hx; simp [hx])⟩
    exact tail_waitsT (T := [t0]) rfl hs rfl inv' hlt _ p i rfl hp hun t0 (by simp) hr
  | succ q =>
    have h1 := List.all_eq_true.1 hc (q + 1) (List.mem_range.2 hql)
    rw [hq] at h1
    simp only [Option.getD_some, Bool.or_eq_true] at h1
    rcases h1 with h1 | h1
    · simp at h1
    · obtain ⟨j, hj, hw⟩ := List.any_eq_true.1 h1
      have hjT : j ∈ T := List.mem_of_mem_take hj
      obtain ⟨_, ot, hot, hall⟩ := mem_ready.1 hr
      obtain ⟨o', ho', e, hem, hb, hon⟩ := Region.waitsFor_spec hw
      have : o' = ot := Option.some.inj (ho'.symm.trans hot)
      subst this
      have h2 := hall e hem hb
      rw [hon, getD_both (inv.tail j hjT)] at h2
      cases h2
section
variable {P : Program} {ops : Array Oper} {Q : Exit → Act → World → Prop} {N : Nat} {σ : Type} {C0 Ca : World → Prop} {C1 : σ → World → Prop} {val : σ → Value}
def WFin2 (P : Program) (ops : Array Oper) (N : Nat) (C0 Ca : World → Prop) (Q : Exit → Act → World → Prop) (o0 : Oper) (d0 : Nat) {σ : Type} (val : σ → Value) (C1 : σ → World → Prop) (lt hd2 tl : List Oper) (K2 : List (Nat × Pr)) : Prop :=
  WrOb P ops N C0 K2 o0 val C1 ∧ WLt P ops Ca (fun K3 => ∀ y, walk P ops (C1 y) (fun K => Sq P ops N (C1 y) Q K tl) ((d0, .inl (val y)) :: K3) hd2) ((d0, .inr uAny) :: dropR K2) lt
theorem region_drawB {id : Nat} {K1 : List (Nat × Pr)} (E Lt H2 T2 : List Nat) (i0 d0 : Nat) (he lt hd2 tl : List Oper) (o0 : Oper) (hm : P.follows .mixedOrders = true) (hB : drawGB ops N (E ++ i0 :: Lt) H2 T2 = true) (hE : sinkTB ops E i0 = true)
    (hhe : he.map some = E.map (ops[·]?)) (ho0 : ops[i0]? = some o0) (hlt : lt.map some = Lt.map (ops[·]?)) (hhd2 : hd2.map some = H2.map (ops[·]?)) (htl : tl.map some = T2.map (ops[·]?)) (hd0 : o0.dst = some d0)
    (hC0 : UpC C0) (hC1 : ∀ y, UpC (C1 y)) (h0a : ∀ w, C0 w → Ca w) (h1a : ∀ y w, C1 y w → Ca w)
    (h : walk P ops C0 (WFin2 P ops N C0 Ca Q o0 d0 val C1 lt hd2 tl) K1 he) {a0 : Act} {w : World} (hst : St N K1 C0 a0 w.drew) : (Code.region id ops true).wp P Q a0 w := by
  refine wp_region_any hm ?_
  simp only [drawGB, Bool.and_eq_true] at hB
  obtain ⟨⟨⟨⟨⟨⟨⟨⟨⟨⟨hsel, hheadB⟩, hsink⟩, hgate⟩, hcov⟩, hnd⟩, hbd⟩, hheadB2⟩, hsink2⟩, hchain2⟩, hseq2⟩ := hB
  generalize hHd : E ++ i0 :: Lt = H at *
  generalize hTd : H2 ++ T2 = T at *
  have hHT : (H ++ T).Nodup := nodupB_spec hnd
  have hbd : ∀ i ∈ H ++ T, i < ops.size := fun i hi => by simpa using List.all_eq_true.1 hbd i hi
  have hcov : ∀ i, i < ops.size → i ∈ H ∨ i ∈ T := fun i hi => by
    have := List.all_eq_true.1 hcov i (List.mem_range.2 hi)
    simp only [Bool.or_eq_true, List.contains_iff_mem, decide_eq_true_eq] at this
    exact this
  obtain ⟨hndH, _, hdis2⟩ := List.nodup_append.1 hHT
  obtain ⟨hd, hhdd⟩ : ∃ hd : List Oper, hd = he ++ o0 :: lt := ⟨_, rfl⟩
  have hhd : hd.map some = H.map (ops[·]?) := by rw [hhdd, ← hHd, List.map_append, List.map_append, hhe, List.map_cons, List.map_cons, hlt, ho0]
  have hlE : he.length = E.length := by have := congrArg List.length hhe; simpa using this
  obtain ⟨hdl, hget, hget'⟩ := map_get hhd
  have hhead : ∀ (p i : Nat) (o : Oper), H[p]? = some i → ops[i]? = some o → HeadT ops N [] H p i o := fun p i o hp ho => by
    obtain ⟨o', ho', hH⟩ := headTB_spec hheadB hp
    have : o' = o := Option.some.inj (ho'.symm.trans ho)
    subst this
    exact hH
  have hHp0 : H[E.length]? = some i0 := by rw [← hHd]; simp
  have hsz : ops.size = H.length + T.length := by
    have hp : (H ++ T).Perm (List.range ops.size) := (List.perm_ext_iff_of_nodup hHT List.nodup_range).2 fun i => by
      rw [List.mem_range]
      constructor
      · exact hbd i
      · intro hi
        rcases hcov i hi with h | h <;> simp [h]
    have := hp.length_eq
    simpa using this.symm
  unfold walk at h
  obtain ⟨Rs1, hRl1, ⟨hWr, hWL⟩, hobs1⟩ := h
  unfold WLt at hWL
  obtain ⟨Rs3, hinl, hRl3, hF, hobs3⟩ := hWL
  obtain ⟨Rs, hRs⟩ : ∃ Rs : List Pr, Rs = Rs1 ++ (.inr uAny : Pr) :: Rs3 := ⟨_, rfl⟩
  have hd_e : ∀ j, j < he.length → hd[j]? = he[j]? := fun j hj => by rw [hhdd, List.getElem?_append_left hj]
  have Rs_e : ∀ j, j < he.length → Rs[j]? = Rs1[j]? := fun j hj => by rw [hRs, List.getElem?_append_left (by omega)]
  have hd_l : ∀ r, hd[he.length + 1 + r]? = lt[r]? := fun r => by
    rw [hhdd, List.getElem?_append_right (by omega), show he.length + 1 + r - he.length = r + 1 by omega, List.getElem?_cons_succ]
  have Rs_l : ∀ r, Rs[he.length + 1 + r]? = Rs3[r]? := fun r => by
    rw [hRs, List.getElem?_append_right (by omega), hRl1, show he.length + 1 + r - he.length = r + 1 by omega, List.getElem?_cons_succ]
  have hd_0 : hd[he.length]? = some o0 := by rw [hhdd]; simp
  have Rs_0 : Rs[he.length]? = some (.inr uAny) := by rw [hRs, ← hRl1]; simp
  have hpos : ∀ p, p < hd.length → p < he.length ∨ p = he.length ∨ ∃ r, p = he.length + 1 + r ∧ r < lt.length := fun p hp => by
    have : hd.length = he.length + (lt.length + 1) := by rw [hhdd]; simp
    rcases Nat.lt_trichotomy p he.length with h | h | h
    · exact .inl h
    · exact .inr (.inl h)
    · exact .inr (.inr ⟨p - he.length - 1, by omega, by omega⟩)
  have hinj : ∀ {p q i j : Nat} {oi oj : Oper} {d : Nat}, H[p]? = some i → H[q]? = some j → ops[i]? = some oi → ops[j]? = some oj → oi.dst = some d → oj.dst = some d → p = q := fun {p q i j oi oj d} hp hq hoi hoj hdi hdj => by
    rcases Nat.lt_trichotomy p q with h | h | h
    · obtain ⟨dd, hdd1, _, hx⟩ := (hhead q j oj hq hoj).dst
      have : dd = d := Option.some.inj (hdd1.symm.trans hdj)
      subst this
      exact absurd hdi (hx p i oi h hp hoi)
    · exact h
    · obtain ⟨dd, hdd1, _, hx⟩ := (hhead p i oi hp hoi).dst
      have : dd = d := Option.some.inj (hdd1.symm.trans hdi)
      subst this
      exact absurd hdj (hx q j oj h hq hoj)
  have hdN : d0 < N := by
    obtain ⟨d, hd1, hd2, _⟩ := (hhead _ i0 o0 hHp0 ho0).dst
    have : d = d0 := Option.some.inj (hd1.symm.trans hd0)
    exact this ▸ hd2
  have key : ∀ (f : Nat) (listed : Array Bool) (a : Act) (w : World) (dr : Bool), InvT ops [] H T listed → cntU listed H = f → listed.getD i0 false = dr →
      InvA hd K1 N d0 Rs C0 C1 val (fun q => ∃ i, H[q]? = some i ∧ listed.getD i false = true) dr a w → wpAny P .any ops Q (f + T.length) listed a w := by
    intro f
    induction f with
    | zero =>
      intro listed a w dr hinv hu hdr hI
      have hlist := cntU_zero hu
      have hlisted : listed = maskA ops.size ([] ++ H) := by
        apply Array.ext
        · simp [maskA, hinv.size]
        · intro i h1 h2
          have hi : i < ops.size := by rw [← hinv.size]; exact h1
          have e1 : listed.getD i true = listed[i] := by simp [h1]
          simp only [maskA, List.getElem_toArray, List.getElem_map, List.getElem_range]
          rcases hcov i hi with h | h
          · rw [← e1, hlist i h]; simp [h]
          · rw [← e1, hinv.tail i h]
            symm
            rw [← Bool.not_eq_true, List.contains_iff_mem]
            intro hc
            exact hdis2 i (by simpa using hc) i h rfl
      have hi0 : i0 ∈ H := List.mem_of_getElem? hHp0
      have hdone : ∀ q, q < hd.length → ∃ i, H[q]? = some i ∧ listed.getD i false = true := fun q hq => by
        have hi : H[q]? = some (H[q]'(by omega)) := List.getElem?_eq_getElem (by omega)
        have him : H[q]'(by omega) ∈ H := List.mem_of_getElem? hi
        exact ⟨_, hi, getD_t_f hinv.size (hbd _ (by simp [him])) (hlist _ him)⟩
      have hdr' : dr = true := by rw [← hdr]; exact getD_t_f hinv.size (hbd _ (by simp [hi0])) (hlist _ hi0)
      subst hdr'
      rw [Nat.zero_add]
      obtain ⟨y, hy, hty⟩ := hI.cls1 rfl
      have hTl : T.length = H2.length + T2.length := by rw [← hTd, List.length_append]
      rw [hTl]
      have hHT2 : (H ++ (H2 ++ T2)).Nodup := by rw [hTd]; exact hHT
      refine wpAny_head H H2 T2 hd2 tl hheadB2 hsink2 hchain2 hseq2 (fun i hi => ?_) hHT2 (fun i hi => hbd i (by rw [hTd] at hi; exact hi)) hhd2 htl (hC1 y) (hF y) listed a w ⟨hinv.size, hinv.closed, fun i hi => getD_t_f hinv.size (hbd _ (by simp [hi])) (hlist _ hi), fun x hx => hinv.tail x (by rw [← hTd]; simp [hx])⟩ (fun i hi => hinv.tail i (by rw [← hTd]; simp [hi])) ⟨hI.size, hI.defers, fun t p hp => ?_, hy⟩
      · rcases hcov i hi with h | h
        · exact .inl h
        · rw [← hTd] at h
          exact .inr (List.mem_append.1 h)
      by_cases e0 : d0 = t
      · subst e0
        rw [lookK_same] at hp
        injection hp with hp
        subst hp
        exact ⟨_, hty, rfl⟩
      rw [lookK_ne _ e0, lookK_append] at hp
      cases hk : lookK (zipK lt Rs3).reverse t with
      | some q =>
        rw [hk] at hp
        have : q = p := by simpa using hp
        subst this
        have hx' : (t, q) ∈ (zipK lt Rs3).take lt.length := by
          rw [List.take_of_length_le (by simp [zipK]; omega)]
          exact List.mem_reverse.1 (lookK_some hk)
        obtain ⟨j, oj, hj, hoj, hx1, hR⟩ := dst_zip hRl3 hx'
        obtain ⟨v, rfl⟩ := hinl q (List.mem_of_getElem? hR)
        have hhj := (hd_l j).trans hoj
        obtain ⟨i, hi, hoi⟩ := hget' _ oj hhj
        obtain ⟨d, hd', _⟩ := (hhead _ i oj hi hoi).dst
        have e : t = d := by simp only [hd', Option.getD_some] at hx1; exact hx1
        subst e
        exact (hI.has _ oj t _ (hdone _ (List.getElem?_eq_some_iff.1 hhj).1) hhj hd' ((Rs_l j).trans hR)).pdBv
      | none =>
        rw [hk] at hp
        have hp : lookK ((d0, (.inr uAny : Pr)) :: dropR ((zipK he Rs1).reverse ++ K1)) t = some p := by simpa using hp
        rw [lookK_ne _ e0, lookK_dropR, lookK_append] at hp
        cases hk1 : lookK (zipK he Rs1).reverse t with
        | some q =>
          rw [hk1] at hp
          have : Pd q = p := by simpa using hp
          subst this
          have hx' : (t, q) ∈ (zipK he Rs1).take he.length := by
            rw [List.take_of_length_le (by simp [zipK]; omega)]
            exact List.mem_reverse.1 (lookK_some hk1)
          obtain ⟨j, oj, hj, hoj, hx1, hR⟩ := dst_zip hRl1 hx'
          have hhj := (hd_e j hj).trans hoj
          obtain ⟨i, hi, hoi⟩ := hget' _ oj hhj
          obtain ⟨d, hd', _⟩ := (hhead _ i oj hi hoi).dst
          have e : t = d := by simp only [hd', Option.getD_some] at hx1; exact hx1
          subst e
          exact (hI.has _ oj t _ (hdone _ (List.getElem?_eq_some_iff.1 hhj).1) hhj hd' ((Rs_e j hj).trans hR)).pdB
        | none =>
          rw [hk1] at hp
          cases hkq : lookK K1 t with
          | none => rw [hkq] at hp; simp at hp
          | some q =>
            rw [hkq] at hp
            have : Pd q = p := by simpa using hp
            subst this
            refine (hI.rest t (fun j oj hoj hdj => ?_) q hkq).pdB
            rcases hpos j (List.getElem?_eq_some_iff.1 hoj).1 with hj | rfl | ⟨r, rfl, hr⟩
            · rw [hd_e j hj] at hoj
              obtain ⟨R, hR⟩ := mem_zip (i := he.length) (l := he) (j := j) (o := oj) hRl1 hj hoj hdj
              rw [List.take_of_length_le (by simp [zipK]; omega)] at hR
              exact lookK_none hk1 _ hR rfl
            · rw [hd_0] at hoj
              injection hoj with hoj
              subst hoj
              exact e0 (Option.some.inj (hd0.symm.trans hdj))
            · rw [hd_l r] at hoj
              obtain ⟨R, hR⟩ := mem_zip (i := lt.length) (l := lt) (j := r) (o := oj) hRl3 hr hoj hdj
              rw [List.take_of_length_le (by simp [zipK]; omega)] at hR
              exact lookK_none hk _ hR rfl
    | succ f ih =>
      intro listed a w dr hinv hu hdr hI
      obtain ⟨p0, j0, hp0, hun0, hbefore⟩ := cntU_pos (listed := listed) (H := H) (by omega)
      have hready : j0 ∈ Region.ready .any ops listed := by
        obtain ⟨o, ho, hH⟩ := headTB_spec hheadB hp0
        refine mem_ready.2 ⟨hun0, o, ho, fun e he hb => ?_⟩
        rcases hH.back e he hb with h | ⟨q, hq, hqe⟩
        · cases h
        · exact getD_t_f hinv.size (hbd _ (by have := List.mem_of_getElem? hqe; simp [this])) (hbefore q _ hq hqe)
      rw [show f + 1 + T.length = (f + T.length) + 1 by omega]
      refine ⟨fun h0 => (by rw [h0] at hready; cases hready), fun i hi => ?_⟩
      obtain ⟨hiun, oi, hoi, hwaits⟩ := mem_ready.1 hi
      have hisz : i < ops.size := (Array.getElem?_eq_some_iff.1 hoi).1
      have hiH : i ∈ H := by
        rcases hcov i hisz with h | h
        · exact h
        · cases hTe : T with
          | nil => rw [hTe] at h; cases h
          | cons t0 T' =>
            exact absurd hi (tail_waitsG (T := T) hTe (by rw [hTe] at hsink; exact hsink) hgate hinv (fun x hx => hbd x (by simp [hx])) hp0 hun0 i h)
      obtain ⟨p, hp⟩ := List.mem_iff_getElem?.1 hiH
      have hH := hhead p i oi hp hoi
      obtain ⟨d, hd', hdl', hdist⟩ := hH.dst
      have hoip := hget p i oi hp hoi
      have hpl : p < hd.length := (List.getElem?_eq_some_iff.1 hoip).1
      have hdn : ∀ j, Region.waitsFor .any ops i j = true → listed.getD j false = true := fun j hj => by
        obtain ⟨o', ho', e, hem, hb, hon⟩ := Region.waitsFor_spec hj
        have : o' = oi := Option.some.inj (ho'.symm.trans hoi)
        subst this
        rw [← hon]
        exact hwaits e hem hb
      have hsz' : d < a.tmps.size := by rw [hI.size]; exact hdl'
      have hdd : ∀ (j : Nat) (oj : Oper), hd[j]? = some oj → j ≠ p → oj.dst ≠ some d := fun j oj hoj hne hdj => by
        obtain ⟨ij, hij, hoij⟩ := hget' j oj hoj
        exact hne (hinj hij hp hoij hoi hdj hd')
      have wasdone : ∀ j, (∃ i', H[j]? = some i' ∧ (listed.setIfInBounds i true).getD i' false = true) → (∃ i', H[j]? = some i' ∧ listed.getD i' false = true) ∨ j = p := fun j ⟨ij, hij, hl⟩ => by
        by_cases e : ij = i
        · refine .inr ?_
          subst e
          have h1 := (List.getElem?_eq_some_iff.1 hij)
          have h2 := (List.getElem?_eq_some_iff.1 hp)
          exact (List.getElem_inj (h₀ := h1.1) (h₁ := h2.1) hndH).1 (h1.2.trans h2.2.symm)
        · rw [getD_set_ne false (Ne.symm e)] at hl
          exact .inl ⟨ij, hij, hl⟩
      have hnotdone : ¬ ∃ i', H[p]? = some i' ∧ listed.getD i' false = true := fun ⟨i', h1, h2⟩ => by
        have : i' = i := Option.some.inj (h1.symm.trans hp)
        subst this
        rw [getD_both hiun] at h2
        cases h2
      have hinv' : InvT ops [] H T (listed.setIfInBounds i true) := by
        refine ⟨by simp [hinv.size], fun j oj hj hl e he' hb => ?_, fun x hx => (by cases hx), fun x hx => ?_⟩
        · by_cases hij : i = j
          · subst hij
            have : oj = oi := Option.some.inj (hj.symm.trans hoi)
            subst this
            exact getD_set_true (hwaits e he' hb)
          · rw [getD_set_ne false hij] at hl
            exact getD_set_true (hinv.closed j oj hj hl e he' hb)
        · rw [getD_set_ne true (fun e => hdis2 i hiH x hx e)]
          exact hinv.tail x hx
      have hcnt' : cntU (listed.setIfInBounds i true) H = f := by
        have := cntU_set hiun hndH
        rw [if_pos hiH] at this
        omega
      -- a slot that an operation looks at and that is written in the head was written
      have hlkd : ∀ t ∈ oi.looksAt ops, ∀ (j : Nat) (oj : Oper) (R : Pr), hd[j]? = some oj → oj.dst = some t → Rs[j]? = some R → okAt (pdB dr R) a t w := fun t ht j oj R hoj hdj hR => by
        obtain ⟨ij, hij, hoij⟩ := hget' j oj hoj
        exact hI.has j oj t R ⟨ij, hij, hdn ij ((hH.looks t ht).2 j ij oj hij hoij hdj).2⟩ hoj hdj hR
      have hlkb : ∀ t ∈ oi.looksAt ops, ∀ (j : Nat) (oj : Oper), hd[j]? = some oj → oj.dst = some t → j < p := fun t ht j oj hoj hdj => by
        obtain ⟨ij, hij, hoij⟩ := hget' j oj hoj
        exact ((hH.looks t ht).2 j ij oj hij hoij hdj).1
      -- what is read in the first part
      have hlooks1 : ∀ m, m ≤ he.length → m ≤ p → (∀ j, j < p → j < he.length → j < m) → (p ≤ he.length) → ∀ t ∈ oi.looksAt ops, ∀ q, lookK (((zipK he Rs1).take m).reverse ++ K1) t = some q → okAt (pdB dr q) a t w := by
        intro m hm1 hmp hmj hpe t ht q hq
        rw [lookK_append] at hq
        cases hk : lookK ((zipK he Rs1).take m).reverse t with
        | some q' =>
          rw [hk] at hq
          have : q' = q := by simpa using hq
          subst this
          obtain ⟨j, oj, hj, hoj, hx, hRj⟩ := dst_zip hRl1 (List.mem_reverse.1 (lookK_some hk))
          have hje : j < he.length := by omega
          have hhj := (hd_e j hje).trans hoj
          obtain ⟨ij, hij, hoij⟩ := hget' j oj hhj
          obtain ⟨dj, hdj, _⟩ := (hhead j ij oj hij hoij).dst
          have hdt : oj.dst = some t := by rw [hdj]; simp only [hdj, Option.getD_some] at hx; rw [hx]
          exact hlkd t ht j oj _ hhj hdt ((Rs_e j hje).trans hRj)
        | none =>
          rw [hk] at hq
          refine hI.rest t (fun j oj hoj hdj => ?_) q (by simpa using hq)
          have hjp := hlkb t ht j oj hoj hdj
          have hje : j < he.length := by omega
          rw [hd_e j hje] at hoj
          obtain ⟨R', hR'⟩ := mem_zip (l := he) hRl1 (hmj j hjp hje) hoj hdj
          exact lookK_none hk _ hR' rfl
      unfold wpOp
      simp only [hoi]
      rcases hpos p hpl with hpe | hpe | ⟨r, hpr, hr⟩
      · -- before the writer
        have hnodr : dr = false := by
          cases hdb : dr with
          | false => rfl
          | true =>
            rw [hdb] at hdr
            have hEp : E[p]? = some i := by rw [← hp, ← hHd, List.getElem?_append_left (by omega)]
            have := early_listed hE hinv.closed hdr p i hEp
            rw [getD_both hiun] at this
            cases this
        subst hnodr
        have hoe := (hd_e p hpe).symm.trans hoip
        obtain ⟨R, hR, hob⟩ := hobs1 p oi hoe
        refine ob_step hob (hI.cls0 rfl) (hlooks1 p (by omega) (Nat.le_refl _) (fun j hj _ => hj) (by omega)) fun v w' hex hv => ?_
        rw [hd']
        have hi0i : i ≠ i0 := fun e => by
          have : p = E.length := by
            have h1 := (List.getElem?_eq_some_iff.1 hp); have h2 := (List.getElem?_eq_some_iff.1 hHp0)
            exact (List.getElem_inj (h₀ := h1.1) (h₁ := h2.1) hndH).1 (h1.2.trans (e.trans h2.2.symm))
          omega
        refine ih _ _ _ false hinv' hcnt' (by rw [getD_set_ne false hi0i]; exact hdr) ⟨by simpa [Act.put] using hI.size, hI.defers, fun _ => hC0 _ _ (hI.cls0 rfl) hex, (fun h => by cases h), fun t ht p' hp' => ?_, fun j oj dj Rj hdone hoj hdj hRj => ?_⟩
        · have hne : d ≠ t := fun e => ht p oi hoip (e ▸ hd')
          exact (hI.rest t ht p' hp').step hex hne
        · rcases wasdone j hdone with hj | rfl
          · have hjp : j ≠ p := fun e => by subst e; exact hnotdone hj
            have hne : d ≠ dj := fun e => hdd j oj hoj hjp (e ▸ hdj)
            exact (hI.has j oj dj Rj hj hoj hdj hRj).step hex hne
          · have e1 : oj = oi := Option.some.inj (hoj.symm.trans hoip)
            subst e1
            have e2 : dj = d := Option.some.inj (hdj.symm.trans hd')
            subst e2
            have e3 : Rj = R := Option.some.inj (hRj.symm.trans ((Rs_e j hpe).trans hR))
            subst e3
            exact okAt.put hsz' hv
      · -- the writer
        have hii : i = i0 := by
          rw [hpe, hlE, hHp0] at hp
          exact (Option.some.inj hp).symm
        have hoo : oi = o0 := by rw [hpe, hd_0] at hoip; exact (Option.some.inj hoip).symm
        subst hii
        subst hoo
        have hdd0 : d = d0 := Option.some.inj (hd'.symm.trans hd0)
        subst hdd0
        have hnodr : dr = false := by rw [← hdr, getD_both hiun]
        subst hnodr
        have hlk2 := hlooks1 he.length (Nat.le_refl _) (by omega) (fun j hj hje => hje) (by omega)
        rw [List.take_of_length_le (by simp [zipK]; omega)] at hlk2
        obtain ⟨hwant, hgiv⟩ := hWr a w hI.size hI.defers (hI.cls0 rfl) hlk2
        rw [if_pos hwant]
        refine .inl (hgiv.wp fun v w' ⟨y, hvy, hc1⟩ => ?_)
        rw [hd']
        have hmine : (a.put (some d) v).tmps[d]? = some v := by simp [Act.put, Array.getElem?_setIfInBounds, hsz']
        refine ih _ _ _ true hinv' hcnt' (by
            have : i < listed.size := by rw [hinv.size]; exact hisz
            simp [Array.getElem?_setIfInBounds, this]) ⟨by simpa [Act.put] using hI.size, hI.defers, (fun h => by cases h), fun _ => ⟨y, hc1, by rw [hmine, hvy]⟩, fun t ht p' hp' => ?_, fun j oj dj Rj hdone hoj hdj hRj => ?_⟩
        · have hne : d ≠ t := fun e => ht p oi hoip (e ▸ hd')
          exact (hI.rest t ht p' hp').pdT hne
        · rcases wasdone j hdone with hj | rfl
          · have hjp : j ≠ p := fun e => by subst e; exact hnotdone hj
            have hne : d ≠ dj := fun e => hdd j oj hoj hjp (e ▸ hdj)
            exact (hI.has j oj dj Rj hj hoj hdj hRj).pdT hne
          · have e1 : oj = oi := Option.some.inj (hoj.symm.trans hoip)
            subst e1
            have e2 : dj = d := Option.some.inj (hdj.symm.trans hd')
            subst e2
            rw [hpe, Rs_0] at hRj
            injection hRj with hRj
            subst hRj
            exact ⟨v, hmine, trivial⟩
      · -- at any time
        have hoe : lt[r]? = some oi := by rw [← hd_l r, ← hpr]; exact hoip
        obtain ⟨R, hR, hob⟩ := hobs3 r oi hoe
        have hCa : Ca w := by
          cases hdb : dr with
          | false => exact h0a w (hI.cls0 hdb)
          | true =>
            obtain ⟨y, hy, _⟩ := hI.cls1 hdb
            exact h1a y w hy
        refine ob_step hob hCa (fun t ht q hq => ?_) fun v w' hex hv => ?_
        · rw [lookK_append] at hq
          cases hk : lookK ((zipK lt Rs3).take r).reverse t with
          | some q' =>
            rw [hk] at hq
            have : q' = q := by simpa using hq
            subst this
            obtain ⟨j, oj, hj, hoj, hx, hRj⟩ := dst_zip hRl3 (List.mem_reverse.1 (lookK_some hk))
            obtain ⟨v, rfl⟩ := hinl q' (List.mem_of_getElem? hRj)
            have hhj := (hd_l j).trans hoj
            obtain ⟨ij, hij, hoij⟩ := hget' _ oj hhj
            obtain ⟨dj, hdj, _⟩ := (hhead _ ij oj hij hoij).dst
            have hdt : oj.dst = some t := by rw [hdj]; simp only [hdj, Option.getD_some] at hx; rw [hx]
            exact (hlkd t ht _ oj _ hhj hdt ((Rs_l j).trans hRj)).pdBv
          | none =>
            rw [hk] at hq
            have hq : lookK ((d0, (.inr uAny : Pr)) :: dropR ((zipK he Rs1).reverse ++ K1)) t = some q := by simpa using hq
            by_cases e0 : d0 = t
            · subst e0
              rw [lookK_same] at hq
              injection hq with hq
              subst hq
              have hts : d0 < a.tmps.size := by rw [hI.size]; exact hdN
              exact ⟨a.tmps[d0], by simp [hts], trivial⟩
            rw [lookK_ne _ e0, lookK_dropR, lookK_append] at hq
            cases hk1 : lookK (zipK he Rs1).reverse t with
            | some q1 =>
              rw [hk1] at hq
              have : Pd q1 = q := by simpa using hq
              subst this
              have hx' : (t, q1) ∈ (zipK he Rs1).take he.length := by
                rw [List.take_of_length_le (by simp [zipK]; omega)]
                exact List.mem_reverse.1 (lookK_some hk1)
              obtain ⟨j, oj, hj, hoj, hx1, hRj⟩ := dst_zip hRl1 hx'
              have hhj := (hd_e j hj).trans hoj
              obtain ⟨ij, hij, hoij⟩ := hget' _ oj hhj
              obtain ⟨dj, hdj, _⟩ := (hhead _ ij oj hij hoij).dst
              have hdt : oj.dst = some t := by rw [hdj]; simp only [hdj, Option.getD_some] at hx1; rw [hx1]
              exact (hlkd t ht _ oj _ hhj hdt ((Rs_e j hj).trans hRj)).pdB
            | none =>
              rw [hk1] at hq
              cases hkq : lookK K1 t with
              | none => rw [hkq] at hq; simp at hq
              | some q1 =>
                rw [hkq] at hq
                have : Pd q1 = q := by simpa using hq
                subst this
                refine (hI.rest t (fun j oj hoj hdj => ?_) q1 hkq).pdB
                have hjp := hlkb t ht j oj hoj hdj
                rcases hpos j (List.getElem?_eq_some_iff.1 hoj).1 with hj | rfl | ⟨r', rfl, hr'⟩
                · rw [hd_e j hj] at hoj
                  obtain ⟨R, hR⟩ := mem_zip (i := he.length) (l := he) (j := j) (o := oj) hRl1 hj hoj hdj
                  rw [List.take_of_length_le (by simp [zipK]; omega)] at hR
                  exact lookK_none hk1 _ hR rfl
                · rw [hd_0] at hoj
                  injection hoj with hoj
                  subst hoj
                  exact e0 (Option.some.inj (hd0.symm.trans hdj))
                · rw [hd_l r'] at hoj
                  obtain ⟨R, hR⟩ := mem_zip (i := r) (l := lt) (j := r') (o := oj) hRl3 (by omega) hoj hdj
                  exact lookK_none hk _ hR rfl
        · rw [hd']
          have hi0i : i ≠ i0 := fun e => by
            have : p = E.length := by
              have h1 := (List.getElem?_eq_some_iff.1 hp); have h2 := (List.getElem?_eq_some_iff.1 hHp0)
              exact (List.getElem_inj (h₀ := h1.1) (h₁ := h2.1) hndH).1 (h1.2.trans (e.trans h2.2.symm))
            omega
          have hd0d : d ≠ d0 := fun e => by
            have := hinj hp hHp0 hoi ho0 hd' (e ▸ hd0)
            omega
          refine ih _ _ _ dr hinv' hcnt' (by rw [getD_set_ne false hi0i]; exact hdr) ⟨by simpa [Act.put] using hI.size, hI.defers, fun h => hC0 _ _ (hI.cls0 h) hex, fun h => ?_, fun t ht p' hp' => ?_, fun j oj dj Rj hdone hoj hdj hRj => ?_⟩
          · obtain ⟨y, hy, hty⟩ := hI.cls1 h
            exact ⟨y, hC1 y _ _ hy hex, by simp [Act.put, Array.getElem?_setIfInBounds, hd0d, hty]⟩
          · have hne : d ≠ t := fun e => ht p oi hoip (e ▸ hd')
            exact (hI.rest t ht p' hp').step hex hne
          · rcases wasdone j hdone with hj | rfl
            · have hjp : j ≠ p := fun e => by subst e; exact hnotdone hj
              have hne : d ≠ dj := fun e => hdd j oj hoj hjp (e ▸ hdj)
              exact (hI.has j oj dj Rj hj hoj hdj hRj).step hex hne
            · have e1 : oj = oi := Option.some.inj (hoj.symm.trans hoip)
              subst e1
              have e2 : dj = d := Option.some.inj (hdj.symm.trans hd')
              subst e2
              rw [hpr, Rs_l r] at hRj
              have e3 : Rj = R := Option.some.inj (hRj.symm.trans hR)
              subst e3
              obtain ⟨v', rfl⟩ := hinl Rj (List.mem_of_getElem? hR)
              have : okAt (.inl v') (a.put (some dj) v) dj w' := okAt.put hsz' hv
              cases dr <;> exact this
  have hu : cntU (Array.replicate ops.size false) H = H.length := by
    unfold cntU
    rw [List.filter_eq_self.2 fun i hi => by
      have := hbd i (by simp [hi])
      simp [this]]
  have hnone : ∀ q : Nat, ¬ ∃ i : Nat, H[q]? = some i ∧ (Array.replicate ops.size false).getD i false = true := fun q ⟨i, hi, hl⟩ => by
    rw [getD_replicate_false] at hl
    cases hl
  have := key H.length (Array.replicate ops.size false) a0 w.drew false ⟨by simp, fun j oj _ h => (by rw [getD_replicate_false] at h; cases h), fun x hx => (by cases hx), fun x hx => by have := hbd x (by simp [hx]); simp [this]⟩ hu (by rw [getD_replicate_false])
    ⟨hst.size, hst.defers, fun _ => hst.cls, (fun h => by cases h), fun t _ p hp => hst.slots t p hp, fun j oj d R hq => absurd hq (hnone j)⟩
  rw [← hsz] at this
  exact this
variable {K : List (Nat × Pr)} {rest : List Oper} {d : Nat} {ty : TypeId} {pos : String} {af : Array Edge} {g : Option (Nat × Bool)}
theorem walk_congrL {C : World → Prop} {tl : List Oper} {K K' : List (Nat × Pr)} {l : List Oper} (hK : ∀ t, lookK K t = lookK K' t) (h : walk P ops C (fun K => Sq P ops N C Q K tl) K l) : walk P ops C (fun K => Sq P ops N C Q K tl) K' l := (walk_stepper (N := N) sq_fin_congr).congr hK h
theorem wFin2_congr {o0 : Oper} {d0 : Nat} {lt hd2 tl : List Oper} : ∀ K K', (∀ t, lookK K t = lookK K' t) → WFin2 P ops N C0 Ca Q o0 d0 val C1 lt hd2 tl K → WFin2 P ops N C0 Ca Q o0 d0 val C1 lt hd2 tl K' := fun K K' hK ⟨h1, h2⟩ => by
  refine ⟨h1.congr hK, h2.congr (fun K K' hK h y => walk_congrL (fun t => ?_) (h y)) fun t => ?_⟩
  · by_cases e : d0 = t
    · subst e; rw [lookK_same, lookK_same]
    · rw [lookK_ne _ e, lookK_ne _ e, hK]
  · by_cases e : d0 = t
    · subst e; rw [lookK_same, lookK_same]
    · rw [lookK_ne _ e, lookK_ne _ e, lookK_dropR, lookK_dropR, hK]
def WB (P : Program) (ops : Array Oper) (N : Nat) (C0 Ca : World → Prop) (Q : Exit → Act → World → Prop) (o0 : Oper) (d0 : Nat) {σ : Type} (val : σ → Value) (C1 : σ → World → Prop) (lt hd2 tl : List Oper) (K : List (Nat × Pr)) (l : List Oper) : Prop := walk P ops C0 (WFin2 P ops N C0 Ca Q o0 d0 val C1 lt hd2 tl) K l
theorem wb_stepper {o0 : Oper} {d0 : Nat} {lt hd2 tl : List Oper} : Stepper P ops C0 N (WB P ops N C0 Ca Q o0 d0 val C1 lt hd2 tl) := walk_stepper wFin2_congr
theorem WB_nil {o0 : Oper} {d0 : Nat} {lt hd2 tl : List Oper} (h1 : WrOb P ops N C0 K o0 val C1) (h2 : WLt P ops Ca (fun K3 => ∀ y, WkH P ops N (C1 y) Q tl ((d0, .inl (val y)) :: K3) hd2) ((d0, .inr uAny) :: dropR K) lt) : WB P ops N C0 Ca Q o0 d0 val C1 lt hd2 tl K [] := walk_nil ⟨h1, (by unfold WkH at h2; exact h2)⟩
theorem H_drawB {id : Nat} {l : List Oper} (E Lt H2 T2 : List Nat) (i0 d0 : Nat) {o0 : Oper} (Ca : World → Prop) {σ : Type} (val : σ → Value) (C1 : σ → World → Prop) (hm : P.follows .mixedOrders = true) (hB : drawGB l.toArray N (E ++ i0 :: Lt) H2 T2 = true) (hE : sinkTB l.toArray E i0 = true) (ho0 : l[i0]? = some o0) (hd0 : o0.dst = some d0)
    (hC0 : UpC C0) (hC1 : ∀ y, UpC (C1 y)) (h0a : ∀ w, C0 w → Ca w) (h1a : ∀ y w, C1 y w → Ca w) (h : WB P l.toArray N C0 Ca Q o0 d0 val C1 (pickL l Lt) (pickL l H2) (pickL l T2) K (pickL l E)) : Hc P N K C0 (.region id l.toArray true) Q := .of fun a w hst => by
  have hb : ∀ i ∈ (E ++ i0 :: Lt) ++ (H2 ++ T2), i < l.length := fun i hi => by
    simp only [drawGB, Bool.and_eq_true] at hB
    simpa using List.all_eq_true.1 hB.1.1.1.1.2 i (by simpa using hi)
  have hdrew : Ext w w.drew := (Ext.refl w).drew
  unfold WB at h
  exact region_drawB E Lt H2 T2 i0 d0 _ _ _ _ o0 hm hB hE (pickL_map fun i hi => hb i (by simp [hi])) (by simpa using ho0) (pickL_map fun i hi => hb i (by simp [hi])) (pickL_map fun i hi => hb i (by simp [hi])) (pickL_map fun i hi => hb i (by simp [hi])) hd0 hC0 hC1 h0a h1a h
    ⟨hst.size, hst.defers, fun t p hp => (let ⟨v, hv, hk⟩ := hst.slots t p hp; ⟨v, hv, Pr.up_ok hdrew hk⟩), hC0 _ _ hst.cls hdrew⟩
/-- The writer appends to what a call before it made. -/
theorem WrOb_appO {wr : World} {α : Type} {Ψ : Phi α} {hfl : Flat Ψ} {xs zs : List α} {es : Option TypeId} {t e : TypeId} {s1 s2 : Nat} (hs : Nat.beq s1 s2 = false) (hk : Nat.blt 0 Ψ.k = true) (hav : Ψ.Av e) (hB : appB P t e Ψ.k = true) (hN : Nat.blt d N = true)
    (hx : lookK K s1 = some (.inr (uO wr.heap.size (oF e Ψ hfl) xs))) (hy : lookK K s2 = some (.inr (uS es Ψ zs))) (hb : xs.length + zs.length ≤ 1073741824 ∧ 0 < zs.length) :
    WrOb P ops N (Ext wr) K ⟨some d, .call { callee := .builtin .append, args := #[.tmp s1, .tmp s2], argTypes := #[t, t] }, ty, pos, af, none⟩ (fun v' : Value => v') (fun v' => Sep wr [.sl α e Ψ (xs ++ zs) v']) := fun a w h1 h2 h3 h4 => by
  have hne : s1 ≠ s2 := fun e => by subst e; rw [Nat.beq_refl] at hs; cases hs
  have hlk : (Oper.looksAt ops ⟨some d, .call { callee := .builtin .append, args := #[.tmp s1, .tmp s2], argTypes := #[t, t] }, ty, pos, af, none⟩) = [s1, s2] := by
    simp [Oper.looksAt, Op.operands, Call.operands]
  obtain ⟨v, hv, hok⟩ := h4 s1 (by rw [hlk]; simp) _ hx
  have hok' : (uO wr.heap.size (oF e Ψ hfl) xs).R v w := hok
  have hsep : Sep wr [.sl α e Ψ xs v] w := Sep.of_uO h3 hok'
  have hlk1 : ∀ t ∈ (Oper.looksAt ops ⟨some d, .call { callee := .builtin .append, args := #[.tmp s1, .tmp s2], argTypes := #[t, t] }, ty, pos, af, none⟩), ∀ p, lookK [(s1, (.inl v : Pr)), (s2, .inr (uS es Ψ zs))] t = some p → okAt p a t w := fun t' ht p hp => by
    replace ht : t' ∈ [s1, s2] := by simpa [Oper.looksAt, Op.operands, Call.operands] using ht
    by_cases e1 : s1 = t'
    · subst e1
      rw [lookK_same] at hp
      injection hp with hp
      subst hp
      exact ⟨v, hv, rfl⟩
    · rw [lookK_ne _ e1] at hp
      by_cases e2 : s2 = t'
      · subst e2
        rw [lookK_same] at hp
        injection hp with hp
        subst hp
        exact h4 s2 (by rw [hlk]; simp) _ hy
      · rw [lookK_ne _ e2] at hp
        cases hp
  exact WrOb_appS (K := [(s1, .inl v), (s2, .inr (uS es Ψ zs))]) (w0 := wr) (L := [.sl α e Ψ xs v]) 0 hs rfl ⟨hav, trivial⟩ hk hB hN (lookK_same _ _ _) ((lookK_ne _ hne).trans (lookK_same _ _ _)) hb a w h1 h2 hsep hlk1
end
end Go.Proofs.Ytbipnenkgkebjaa

/- A region that draws its order in which one operation writes into memory of one's own: those that it waits for come first, others may come at any time. -/
import Derived.Test.YtanlaggnhocjhaaDrs
namespace Go.Proofs.Ytanlaggnhocjhaa
set_option linter.unusedSimpArgs false
set_option linter.unusedVariables false
open Go.RowKit
section
variable {P : Program} {ops : Array Oper} {Q : Exit → Act → World → Prop} {N : Nat} {σ : Type} {C0 Ca : World → Prop} {C1 : σ → World → Prop} {val : σ → Value}
def Pd : Pr → Pr
  | .inl v => .inl v
  | .inr _ => .inr uAny
def pdB : Bool → Pr → Pr
  | false, p => p
  | true, p => Pd p
theorem lookK_dropR : ∀ (K : List (Nat × Pr)) (t : Nat), lookK (dropR K) t = (lookK K t).map Pd
  | [], _ => rfl
  | (s, .inl v) :: K, t => by
    simp only [dropR]
    by_cases e : s = t
    · subst e
      rw [lookK_same, lookK_same]
      rfl
    · rw [lookK_ne _ e, lookK_ne _ e]
      exact lookK_dropR K t
  | (s, .inr U) :: K, t => by
    simp only [dropR]
    by_cases e : s = t
    · subst e
      rw [lookK_same, lookK_same]
      rfl
    · rw [lookK_ne _ e, lookK_ne _ e]
      exact lookK_dropR K t
theorem okAt.pd {p : Pr} {a : Act} {t : Nat} {w : World} (h : okAt p a t w) : okAt (Pd p) a t w := by
  obtain ⟨v, hv, hk⟩ := h
  cases p with
  | inl u => exact ⟨v, hv, hk⟩
  | inr U => exact ⟨v, hv, trivial⟩
theorem okAt.pdB {b : Bool} {p : Pr} {a : Act} {t : Nat} {w : World} (h : okAt (pdB b p) a t w) : okAt (Pd p) a t w := by
  cases b with
  | false => exact h.pd
  | true => exact h
theorem okAt.pdBv {b : Bool} {v : Value} {a : Act} {t : Nat} {w : World} (h : okAt (Go.Proofs.Ytanlaggnhocjhaa.pdB b (.inl v)) a t w) : okAt (.inl v) a t w := by
  cases b <;> exact h
theorem okAt.pdT {p : Pr} {a : Act} {t d : Nat} {w w' : World} {v : Value} (h : okAt p a t w) (hne : d ≠ t) : okAt (Pd p) (a.put (some d) v) t w' := by
  obtain ⟨u, hu, hk⟩ := h
  refine ⟨u, by simp [Act.put, Array.getElem?_setIfInBounds, hne, hu], ?_⟩
  cases p with
  | inl x => exact hk
  | inr U => trivial
def WrOb (P : Program) (ops : Array Oper) (N : Nat) (C0 : World → Prop) (K : List (Nat × Pr)) (o : Oper) {σ : Type} (val : σ → Value) (C1 : σ → World → Prop) : Prop :=
  ∀ (a : Act) (w : World), a.tmps.size = N → a.defers = [] → C0 w → (∀ t ∈ o.looksAt ops, ∀ p, lookK K t = some p → okAt p a t w) → Region.wanted o (yielded ops a.tmps) = true ∧ gives P o a w (fun v w' => ∃ y, v = val y ∧ C1 y w')
def WLt (P : Program) (ops : Array Oper) (Ca : World → Prop) (Fin : List (Nat × Pr) → Prop) (K : List (Nat × Pr)) (l : List Oper) : Prop :=
  ∃ Rs : List Pr, (∀ R ∈ Rs, ∃ v, R = .inl v) ∧ Rs.length = l.length ∧ Fin ((zipK l Rs).reverse ++ K) ∧ ∀ (i : Nat) (o : Oper), l[i]? = some o → ∃ R, Rs[i]? = some R ∧ Ob P ops Ca (((zipK l Rs).take i).reverse ++ K) o R
def WFin (P : Program) (ops : Array Oper) (N : Nat) (C0 Ca : World → Prop) (Q : Exit → Act → World → Prop) (o0 : Oper) (d0 : Nat) {σ : Type} (val : σ → Value) (C1 : σ → World → Prop) (lt tl : List Oper) (K2 : List (Nat × Pr)) : Prop :=
  WrOb P ops N C0 K2 o0 val C1 ∧ WLt P ops Ca (fun K3 => ∀ y, Sq P ops N (C1 y) Q ((d0, .inl (val y)) :: K3) tl) ((d0, .inr uAny) :: dropR K2) lt
structure InvA (hd : List Oper) (K1 : List (Nat × Pr)) (N d0 : Nat) (Rs : List Pr) (C0 : World → Prop) {σ : Type} (C1 : σ → World → Prop) (val : σ → Value) (done : Nat → Prop) (dr : Bool) (a : Act) (w : World) : Prop where
  size : a.tmps.size = N
  defers : a.defers = []
  cls0 : dr = false → C0 w
  cls1 : dr = true → ∃ y, C1 y w ∧ a.tmps[d0]? = some (val y)
  rest : ∀ t, (∀ (j : Nat) (oj : Oper), hd[j]? = some oj → oj.dst ≠ some t) → ∀ p, lookK K1 t = some p → okAt (pdB dr p) a t w
  has : ∀ (j : Nat) (oj : Oper) (d : Nat) (R : Pr), done j → hd[j]? = some oj → oj.dst = some d → Rs[j]? = some R → okAt (pdB dr R) a d w
theorem pdB_step {b : Bool} {p : Pr} {a : Act} {t d : Nat} {w w' : World} {v : Value} (h : okAt (pdB b p) a t w) (he : Ext w w') (hne : d ≠ t) : okAt (pdB b p) (a.put (some d) v) t w' := h.step he hne
theorem early_listed {E : List Nat} {i0 : Nat} {listed : Array Bool} (hE : sinkTB ops E i0 = true) (hcl : ∀ j oj, ops[j]? = some oj → listed.getD j false = true → ∀ e ∈ oj.after, Region.binds .any e = true → listed.getD e.on false = true)
    (h0 : listed.getD i0 false = true) : ∀ p i : Nat, E[p]? = some i → listed.getD i false = true := by
  have hw : ∀ i j, Region.waitsFor .any ops i j = true → listed.getD i false = true → listed.getD j false = true := fun i j hj hi => by
    obtain ⟨o', ho', e, hem, hb, hon⟩ := Region.waitsFor_spec hj
    rw [← hon]
    exact hcl i o' ho' hi e hem hb
  have key : ∀ n p i : Nat, E.length - p = n → E[p]? = some i → listed.getD i false = true := by
    intro n
    induction n using Nat.strongRecOn with
    | _ n ih =>
      intro p i hn hp
      have hlt : p < E.length := (List.getElem?_eq_some_iff.1 hp).1
      have h1 := List.all_eq_true.1 hE p (List.mem_range.2 hlt)
      rw [hp] at h1
      simp only [Option.getD_some, Bool.or_eq_true] at h1
      rcases h1 with h1 | h1
      · exact hw _ _ h1 h0
      · obtain ⟨j, hj, h2⟩ := List.any_eq_true.1 h1
        obtain ⟨q, hq, hqj⟩ := get_of_drop hj
        exact hw _ _ h2 (ih (E.length - q) (by omega) q j rfl hqj)
  exact fun p i hp => key _ p i rfl hp
theorem region_drawA {id : Nat} {K1 : List (Nat × Pr)} (E Lt T : List Nat) (i0 d0 : Nat) (he lt tl : List Oper) (o0 : Oper) (hm : P.follows .mixedOrders = true) (hB : drawB ops N [] (E ++ i0 :: Lt) T = true) (hE : sinkTB ops E i0 = true)
    (hhe : he.map some = E.map (ops[·]?)) (ho0 : ops[i0]? = some o0) (hlt : lt.map some = Lt.map (ops[·]?)) (htl : tl.map some = T.map (ops[·]?)) (hd0 : o0.dst = some d0)
    (hC0 : UpC C0) (hC1 : ∀ y, UpC (C1 y)) (h0a : ∀ w, C0 w → Ca w) (h1a : ∀ y w, C1 y w → Ca w)
    (h : walk P ops C0 (WFin P ops N C0 Ca Q o0 d0 val C1 lt tl) K1 he) {a0 : Act} {w : World} (hst : St N K1 C0 a0 w.drew) : (Code.region id ops true).wp P Q a0 w := by
  refine wp_region_any hm ?_
  simp only [drawB, Bool.and_eq_true] at hB
  obtain ⟨⟨⟨⟨⟨⟨⟨⟨hsel, hlate⟩, hheadB⟩, hsink⟩, hchain⟩, hseq⟩, hcov⟩, hnd⟩, hbd⟩ := hB
  generalize hHd : E ++ i0 :: Lt = H at *
  have hHT : (H ++ T).Nodup := nodupB_spec hnd
  have hbd : ∀ i ∈ H ++ T, i < ops.size := fun i hi => by simpa using List.all_eq_true.1 hbd i hi
  have hcov : ∀ i, i < ops.size → i ∈ H ∨ i ∈ T := fun i hi => by
    have := List.all_eq_true.1 hcov i (List.mem_range.2 hi)
    simp only [Bool.or_eq_true, List.contains_iff_mem, decide_eq_true_eq] at this
    rcases this with (h | h) | h
    · cases h
    · exact .inl h
    · exact .inr h
  obtain ⟨hndH, _, hdis2⟩ := List.nodup_append.1 hHT
  obtain ⟨hd, hhdd⟩ : ∃ hd : List Oper, hd = he ++ o0 :: lt := ⟨_, rfl⟩
  have hhd : hd.map some = H.map (ops[·]?) := by rw [hhdd, ← hHd, List.map_append, List.map_append, hhe, List.map_cons, List.map_cons, hlt, ho0]
  have hlE : he.length = E.length := by have := congrArg List.length hhe; simpa using this
  obtain ⟨hdl, hget, hget'⟩ := map_get hhd
  have hhead : ∀ (p i : Nat) (o : Oper), H[p]? = some i → ops[i]? = some o → HeadT ops N [] H p i o := fun p i o hp ho => by
    obtain ⟨o', ho', hH⟩ := headTB_spec hheadB hp
    have : o' = o := Option.some.inj (ho'.symm.trans ho)
    subst this
    exact hH
  have hHp0 : H[E.length]? = some i0 := by rw [← hHd]; simp
  have hsz : ops.size = H.length + T.length := by
    have hp : (H ++ T).Perm (List.range ops.size) := (List.perm_ext_iff_of_nodup hHT List.nodup_range).2 fun i => by
      rw [List.mem_range]
      constructor
      · exact hbd i
      · intro hi
        rcases hcov i hi with h | h <;> simp [h]
    have := hp.length_eq
    simpa using this.symm
  unfold walk at h
  obtain ⟨Rs1, hRl1, ⟨hWr, hWL⟩, hobs1⟩ := h
  unfold WLt at hWL
  obtain ⟨Rs3, hinl, hRl3, hF, hobs3⟩ := hWL
  obtain ⟨Rs, hRs⟩ : ∃ Rs : List Pr, Rs = Rs1 ++ (.inr uAny : Pr) :: Rs3 := ⟨_, rfl⟩
  have hd_e : ∀ j, j < he.length → hd[j]? = he[j]? := fun j hj => by rw [hhdd, List.getElem?_append_left hj]
  have Rs_e : ∀ j, j < he.length → Rs[j]? = Rs1[j]? := fun j hj => by rw [hRs, List.getElem?_append_left (by omega)]
  have hd_l : ∀ r, hd[he.length + 1 + r]? = lt[r]? := fun r => by
    rw [hhdd, List.getElem?_append_right (by omega), show he.length + 1 + r - he.length = r + 1 by omega, List.getElem?_cons_succ]
  have Rs_l : ∀ r, Rs[he.length + 1 + r]? = Rs3[r]? := fun r => by
    rw [hRs, List.getElem?_append_right (by omega), hRl1, show he.length + 1 + r - he.length = r + 1 by omega, List.getElem?_cons_succ]
  have hd_0 : hd[he.length]? = some o0 := by rw [hhdd]; simp
  have Rs_0 : Rs[he.length]? = some (.inr uAny) := by rw [hRs, ← hRl1]; simp
  have hpos : ∀ p, p < hd.length → p < he.length ∨ p = he.length ∨ ∃ r, p = he.length + 1 + r ∧ r < lt.length := fun p hp => by
    have : hd.length = he.length + (lt.length + 1) := by rw [hhdd]; simp
    rcases Nat.lt_trichotomy p he.length with h | h | h
    · exact .inl h
    · exact .inr (.inl h)
    · exact .inr (.inr ⟨p - he.length - 1, by omega, by omega⟩)
  have hinj : ∀ {p q i j : Nat} {oi oj : Oper} {d : Nat}, H[p]? = some i → H[q]? = some j → ops[i]? = some oi → ops[j]? = some oj → oi.dst = some d → oj.dst = some d → p = q := fun {p q i j oi oj d} hp hq hoi hoj hdi hdj => by
    rcases Nat.lt_trichotomy p q with h | h | h
    · obtain ⟨dd, hdd1, _, hx⟩ := (hhead q j oj hq hoj).dst
      have : dd = d := Option.some.inj (hdd1.symm.trans hdj)
      subst this
      exact absurd hdi (hx p i oi h hp hoi)
    · exact h
    · obtain ⟨dd, hdd1, _, hx⟩ := (hhead p i oi hp hoi).dst
      have : dd = d := Option.some.inj (hdd1.symm.trans hdi)
      subst this
      exact absurd hdj (hx q j oj h hq hoj)
  have hdN : d0 < N := by
    obtain ⟨d, hd1, hd2, _⟩ := (hhead _ i0 o0 hHp0 ho0).dst
    have : d = d0 := Option.some.inj (hd1.symm.trans hd0)
    exact this ▸ hd2
  have key : ∀ (f : Nat) (listed : Array Bool) (a : Act) (w : World) (dr : Bool), InvT ops [] H T listed → cntU listed H = f → listed.getD i0 false = dr →
      InvA hd K1 N d0 Rs C0 C1 val (fun q => ∃ i, H[q]? = some i ∧ listed.getD i false = true) dr a w → wpAny P .any ops Q (f + T.length) listed a w := by
    intro f
    induction f with
    | zero =>
      intro listed a w dr hinv hu hdr hI
      have hlist := cntU_zero hu
      have hlisted : listed = maskA ops.size ([] ++ H) := by
        apply Array.ext
        · simp [maskA, hinv.size]
        · intro i h1 h2
          have hi : i < ops.size := by rw [← hinv.size]; exact h1
          have e1 : listed.getD i true = listed[i] := by simp [h1]
          simp only [maskA, List.getElem_toArray, List.getElem_map, List.getElem_range]
          rcases hcov i hi with h | h
          · rw [← e1, hlist i h]; simp [h]
          · rw [← e1, hinv.tail i h]
            symm
            rw [← Bool.not_eq_true, List.contains_iff_mem]
            intro hc
            exact hdis2 i (by simpa using hc) i h rfl
      have hi0 : i0 ∈ H := List.mem_of_getElem? hHp0
      have hdone : ∀ q, q < hd.length → ∃ i, H[q]? = some i ∧ listed.getD i false = true := fun q hq => by
        have hi : H[q]? = some (H[q]'(by omega)) := List.getElem?_eq_getElem (by omega)
        have him : H[q]'(by omega) ∈ H := List.mem_of_getElem? hi
        exact ⟨_, hi, getD_t_f hinv.size (hbd _ (by simp [him])) (hlist _ him)⟩
      have hdr' : dr = true := by rw [← hdr]; exact getD_t_f hinv.size (hbd _ (by simp [hi0])) (hlist _ hi0)
      subst hdr'
      rw [hlisted, Nat.zero_add]
      refine wpAny_seqT T tl _ a w htl hseq ?_
      obtain ⟨y, hy, hty⟩ := hI.cls1 rfl
      have hsq := hF y
      unfold Sq at hsq
      refine hsq a w ⟨hI.size, hI.defers, fun t p hp => ?_, hy⟩
      by_cases e0 : d0 = t
      · subst e0
        rw [lookK_same] at hp
        injection hp with hp
        subst hp
        exact ⟨_, hty, rfl⟩
      rw [lookK_ne _ e0, lookK_append] at hp
      cases hk : lookK (zipK lt Rs3).reverse t with
      | some q =>
        rw [hk] at hp
        have : q = p := by simpa using hp
        subst this
        have hx' : (t, q) ∈ (zipK lt Rs3).take lt.length := by
          rw [List.take_of_length_le (by simp [zipK]; omega)]
          exact List.mem_reverse.1 (lookK_some hk)
        obtain ⟨j, oj, hj, hoj, hx1, hR⟩ := dst_zip hRl3 hx'
        obtain ⟨v, rfl⟩ := hinl q (List.mem_of_getElem? hR)
        have hhj := (hd_l j).trans hoj
        obtain ⟨i, hi, hoi⟩ := hget' _ oj hhj
        obtain ⟨d, hd', _⟩ := (hhead _ i oj hi hoi).dst
        have e : t = d := by simp only [hd', Option.getD_some] at hx1; exact hx1
        subst e
        exact (hI.has _ oj t _ (hdone _ (List.getElem?_eq_some_iff.1 hhj).1) hhj hd' ((Rs_l j).trans hR)).pdBv
      | none =>
        rw [hk] at hp
        have hp : lookK ((d0, (.inr uAny : Pr)) :: dropR ((zipK he Rs1).reverse ++ K1)) t = some p := by simpa using hp
        rw [lookK_ne _ e0, lookK_dropR, lookK_append] at hp
        cases hk1 : lookK (zipK he Rs1).reverse t with
        | some q =>
          rw [hk1] at hp
          have : Pd q = p := by simpa using hp
          subst this
          have hx' : (t, q) ∈ (zipK he Rs1).take he.length := by
            rw [List.take_of_length_le (by simp [zipK]; omega)]
            exact List.mem_reverse.1 (lookK_some hk1)
          obtain ⟨j, oj, hj, hoj, hx1, hR⟩ := dst_zip hRl1 hx'
          have hhj := (hd_e j hj).trans hoj
          obtain ⟨i, hi, hoi⟩ := hget' _ oj hhj
          obtain ⟨d, hd', _⟩ := (hhead _ i oj hi hoi).dst
          have e : t = d := by simp only [hd', Option.getD_some] at hx1; exact hx1
          subst e
          exact (hI.has _ oj t _ (hdone _ (List.getElem?_eq_some_iff.1 hhj).1) hhj hd' ((Rs_e j hj).trans hR)).pdB
        | none =>
          rw [hk1] at hp
          cases hkq : lookK K1 t with
          | none => rw [hkq] at hp; simp at hp
          | some q =>
            rw [hkq] at hp
            have : Pd q = p := by simpa using hp
            subst this
            refine (hI.rest t (fun j oj hoj hdj => ?_) q hkq).pdB
            rcases hpos j (List.getElem?_eq_some_iff.1 hoj).1 with hj | rfl | ⟨r, rfl, hr⟩
            · rw [hd_e j hj] at hoj
              obtain ⟨R, hR⟩ := mem_zip (i := he.length) (l := he) (j := j) (o := oj) hRl1 hj hoj hdj
              rw [List.take_of_length_le (by simp [zipK]; omega)] at hR
              exact lookK_none hk1 _ hR rfl
            · rw [hd_0] at hoj
              injection hoj with hoj
              subst hoj
              exact e0 (Option.some.inj (hd0.symm.trans hdj))
            · rw [hd_l r] at hoj
              obtain ⟨R, hR⟩ := mem_zip (i := lt.length) (l := lt) (j := r) (o := oj) hRl3 hr hoj hdj
              rw [List.take_of_length_le (by simp [zipK]; omega)] at hR
              exact lookK_none hk _ hR rfl
    | succ f ih =>
      intro listed a w dr hinv hu hdr hI
      obtain ⟨p0, j0, hp0, hun0, hbefore⟩ := cntU_pos (listed := listed) (H := H) (by omega)
      have hready : j0 ∈ Region.ready .any ops listed := by
        obtain ⟨o, ho, hH⟩ := headTB_spec hheadB hp0
        refine mem_ready.2 ⟨hun0, o, ho, fun e he hb => ?_⟩
        rcases hH.back e he hb with h | ⟨q, hq, hqe⟩
        · cases h
        · exact getD_t_f hinv.size (hbd _ (by have := List.mem_of_getElem? hqe; simp [this])) (hbefore q _ hq hqe)
      rw [show f + 1 + T.length = (f + T.length) + 1 by omega]
      refine ⟨fun h0 => (by rw [h0] at hready; cases hready), fun i hi => ?_⟩
      obtain ⟨hiun, oi, hoi, hwaits⟩ := mem_ready.1 hi
      have hisz : i < ops.size := (Array.getElem?_eq_some_iff.1 hoi).1
      have hiH : i ∈ H := by
        rcases hcov i hisz with h | h
        · exact h
        · cases hTe : T with
          | nil => rw [hTe] at h; cases h
          | cons t0 T' =>
            rw [hTe] at hsink
            exact absurd hi (tail_waitsT hTe hsink hchain hinv (fun x hx => hbd x (by simp [hx])) _ p0 j0 rfl hp0 hun0 i h)
      obtain ⟨p, hp⟩ := List.mem_iff_getElem?.1 hiH
      have hH := hhead p i oi hp hoi
      obtain ⟨d, hd', hdl', hdist⟩ := hH.dst
      have hoip := hget p i oi hp hoi
      have hpl : p < hd.length := (List.getElem?_eq_some_iff.1 hoip).1
      have hdn : ∀ j, Region.waitsFor .any ops i j = true → listed.getD j false = true := fun j hj => by
        obtain ⟨o', ho', e, hem, hb, hon⟩ := Region.waitsFor_spec hj
        have : o' = oi := Option.some.inj (ho'.symm.trans hoi)
        subst this
        rw [← hon]
        exact hwaits e hem hb
      have hsz' : d < a.tmps.size := by rw [hI.size]; exact hdl'
      have hdd : ∀ (j : Nat) (oj : Oper), hd[j]? = some oj → j ≠ p → oj.dst ≠ some d := fun j oj hoj hne hdj => by
        obtain ⟨ij, hij, hoij⟩ := hget' j oj hoj
        exact hne (hinj hij hp hoij hoi hdj hd')
      have wasdone : ∀ j, (∃ i', H[j]? = some i' ∧ (listed.setIfInBounds i true).getD i' false = true) → (∃ i', H[j]? = some i' ∧ listed.getD i' false = true) ∨ j = p := fun j ⟨ij, hij, hl⟩ => by
        by_cases e : ij = i
        · refine .inr ?_
          subst e
          have h1 := (List.getElem?_eq_some_iff.1 hij)
          have h2 := (List.getElem?_eq_some_iff.1 hp)
          exact (List.getElem_inj (h₀ := h1.1) (h₁ := h2.1) hndH).1 (h1.2.trans h2.2.symm)
        · rw [getD_set_ne false (Ne.symm e)] at hl
          exact .inl ⟨ij, hij, hl⟩
      have hnotdone : ¬ ∃ i', H[p]? = some i' ∧ listed.getD i' false = true := fun ⟨i', h1, h2⟩ => by
        have : i' = i := Option.some.inj (h1.symm.trans hp)
        subst this
        rw [getD_both hiun] at h2
        cases h2
      have hinv' : InvT ops [] H T (listed.setIfInBounds i true) := by
        refine ⟨by simp [hinv.size], fun j oj hj hl e he' hb => ?_, fun x hx => (by cases hx), fun x hx => ?_⟩
        · by_cases hij : i = j
          · subst hij
            have : oj = oi := Option.some.inj (hj.symm.trans hoi)
            subst this
            exact getD_set_true (hwaits e he' hb)
          · rw [getD_set_ne false hij] at hl
            exact getD_set_true (hinv.closed j oj hj hl e he' hb)
        · rw [getD_set_ne true (fun e => hdis2 i hiH x hx e)]
          exact hinv.tail x hx
      have hcnt' : cntU (listed.setIfInBounds i true) H = f := by
        have := cntU_set hiun hndH
        rw [if_pos hiH] at this
        omega
      -- a slot that an operation looks at and that is written in the head was written
      have hlkd : ∀ t ∈ oi.looksAt ops, ∀ (j : Nat) (oj : Oper) (R : Pr), hd[j]? = some oj → oj.dst = some t → Rs[j]? = some R → okAt (pdB dr R) a t w := fun t ht j oj R hoj hdj hR => by
        obtain ⟨ij, hij, hoij⟩ := hget' j oj hoj
        exact hI.has j oj t R ⟨ij, hij, hdn ij ((hH.looks t ht).2 j ij oj hij hoij hdj).2⟩ hoj hdj hR
      have hlkb : ∀ t ∈ oi.looksAt ops, ∀ (j : Nat) (oj : Oper), hd[j]? = some oj → oj.dst = some t → j < p := fun t ht j oj hoj hdj => by
        obtain ⟨ij, hij, hoij⟩ := hget' j oj hoj
        exact ((hH.looks t ht).2 j ij oj hij hoij hdj).1
      -- what is read in the first part
      have hlooks1 : ∀ m, m ≤ he.length → m ≤ p → (∀ j, j < p → j < he.length → j < m) → (p ≤ he.length) → ∀ t ∈ oi.looksAt ops, ∀ q, lookK (((zipK he Rs1).take m).reverse ++ K1) t = some q → okAt (pdB dr q) a t w := by
        intro m hm1 hmp hmj hpe t ht q hq
        rw [lookK_append] at hq
        cases hk : lookK ((zipK he Rs1).take m).reverse t with
        | some q' =>
          rw [hk] at hq
          have : q' = q := by simpa using hq
          subst this
          obtain ⟨j, oj, hj, hoj, hx, hRj⟩ := dst_zip hRl1 (List.mem_reverse.1 (lookK_some hk))
          have hje : j < he.length := by omega
          have hhj := (hd_e j hje).trans hoj
          obtain ⟨ij, hij, hoij⟩ := hget' j oj hhj
          obtain ⟨dj, hdj, _⟩ := (hhead j ij oj hij hoij).dst
          have hdt : oj.dst = some t := by rw [hdj]; simp only [hdj, Option.getD_some] at hx; rw [hx]
          exact hlkd t ht j oj _ hhj hdt ((Rs_e j hje).trans hRj)
        | none =>
          rw [hk] at hq
          refine hI.rest t (fun j oj hoj hdj => ?_) q (by simpa using hq)
          have hjp := hlkb t ht j oj hoj hdj
          have hje : j < he.length := by omega
          rw [hd_e j hje] at hoj
          obtain ⟨R', hR'⟩ := mem_zip (l := he) hRl1 (hmj j hjp hje) hoj hdj
          exact lookK_none hk _ hR' rfl
      unfold wpOp
      simp only [hoi]
      rcases hpos p hpl with hpe | hpe | ⟨r, hpr, hr⟩
      · -- before the writer
        have hnodr : dr = false := by
          cases hdb : dr with
          | false => rfl
          | true =>
            rw [hdb] at hdr
            have hEp : E[p]? = some i := by rw [← hp, ← hHd, List.getElem?_append_left (by omega)]
            have := early_listed hE hinv.closed hdr p i hEp
            rw [getD_both hiun] at this
            cases this
        subst hnodr
        have hoe := (hd_e p hpe).symm.trans hoip
        obtain ⟨R, hR, hob⟩ := hobs1 p oi hoe
        refine ob_step hob (hI.cls0 rfl) (hlooks1 p (by omega) (Nat.le_refl _) (fun j hj _ => hj) (by omega)) fun v w' hex hv => ?_
        rw [hd']
        have hi0i : i ≠ i0 := fun e => by
          have : p = E.length := by
            have h1 := (List.getElem?_eq_some_iff.1 hp); have h2 := (List.getElem?_eq_some_iff.1 hHp0)
            exact (List.getElem_inj (h₀ := h1.1) (h₁ := h2.1) hndH).1 (h1.2.trans (e.trans h2.2.symm))
          omega
        refine ih _ _ _ false hinv' hcnt' (by rw [getD_set_ne false hi0i]; exact hdr) ⟨by simpa [Act.put] using hI.size, hI.defers, fun _ => hC0 _ _ (hI.cls0 rfl) hex, (fun h => by cases h), fun t ht p' hp' => ?_, fun j oj dj Rj hdone hoj hdj hRj => ?_⟩
        · have hne : d ≠ t := fun e => ht p oi hoip (e ▸ hd')
          exact (hI.rest t ht p' hp').step hex hne
        · rcases wasdone j hdone with hj | rfl
          · have hjp : j ≠ p := fun e => by subst e; exact hnotdone hj
            have hne : d ≠ dj := fun e => hdd j oj hoj hjp (e ▸ hdj)
            exact (hI.has j oj dj Rj hj hoj hdj hRj).step hex hne
          · have e1 : oj = oi := Option.some.inj (hoj.symm.trans hoip)
            subst e1
            have e2 : dj = d := Option.some.inj (hdj.symm.trans hd')
            subst e2
            have e3 : Rj = R := Option.some.inj (hRj.symm.trans ((Rs_e j hpe).trans hR))
            subst e3
            exact okAt.put hsz' hv
      · -- the writer
        have hii : i = i0 := by
          rw [hpe, hlE, hHp0] at hp
          exact (Option.some.inj hp).symm
        have hoo : oi = o0 := by rw [hpe, hd_0] at hoip; exact (Option.some.inj hoip).symm
        subst hii
        subst hoo
        have hdd0 : d = d0 := Option.some.inj (hd'.symm.trans hd0)
        subst hdd0
        have hnodr : dr = false := by rw [← hdr, getD_both hiun]
        subst hnodr
        have hlk2 := hlooks1 he.length (Nat.le_refl _) (by omega) (fun j hj hje => hje) (by omega)
        rw [List.take_of_length_le (by simp [zipK]; omega)] at hlk2
        obtain ⟨hwant, hgiv⟩ := hWr a w hI.size hI.defers (hI.cls0 rfl) hlk2
        rw [if_pos hwant]
        refine .inl (hgiv.wp fun v w' ⟨y, hvy, hc1⟩ => ?_)
        rw [hd']
        have hmine : (a.put (some d) v).tmps[d]? = some v := by simp [Act.put, Array.getElem?_setIfInBounds, hsz']
        refine ih _ _ _ true hinv' hcnt' (by
            have : i < listed.size := by rw [hinv.size]; exact hisz
            simp [Array.getElem?_setIfInBounds, this]) ⟨by simpa [Act.put] using hI.size, hI.defers, (fun h => by cases h), fun _ => ⟨y, hc1, by rw [hmine, hvy]⟩, fun t ht p' hp' => ?_, fun j oj dj Rj hdone hoj hdj hRj => ?_⟩
        · have hne : d ≠ t := fun e => ht p oi hoip (e ▸ hd')
          exact (hI.rest t ht p' hp').pdT hne
        · rcases wasdone j hdone with hj | rfl
          · have hjp : j ≠ p := fun e => by subst e; exact hnotdone hj
            have hne : d ≠ dj := fun e => hdd j oj hoj hjp (e ▸ hdj)
            exact (hI.has j oj dj Rj hj hoj hdj hRj).pdT hne
          · have e1 : oj = oi := Option.some.inj (hoj.symm.trans hoip)
            subst e1
            have e2 : dj = d := Option.some.inj (hdj.symm.trans hd')
            subst e2
            rw [hpe, Rs_0] at hRj
            injection hRj with hRj
            subst hRj
            exact ⟨v, hmine, trivial⟩
      · -- at any time
        have hoe : lt[r]? = some oi := by rw [← hd_l r, ← hpr]; exact hoip
        obtain ⟨R, hR, hob⟩ := hobs3 r oi hoe
        have hCa : Ca w := by
          cases hdb : dr with
          | false => exact h0a w (hI.cls0 hdb)
          | true =>
            obtain ⟨y, hy, _⟩ := hI.cls1 hdb
            exact h1a y w hy
        refine ob_step hob hCa (fun t ht q hq => ?_) fun v w' hex hv => ?_
        · rw [lookK_append] at hq
          cases hk : lookK ((zipK lt Rs3).take r).reverse t with
          | some q' =>
            rw [hk] at hq
            have : q' = q := by simpa using hq
            subst this
            obtain ⟨j, oj, hj, hoj, hx, hRj⟩ := dst_zip hRl3 (List.mem_reverse.1 (lookK_some hk))
            obtain ⟨v, rfl⟩ := hinl q' (List.mem_of_getElem? hRj)
            have hhj := (hd_l j).trans hoj
            obtain ⟨ij, hij, hoij⟩ := hget' _ oj hhj
            obtain ⟨dj, hdj, _⟩ := (hhead _ ij oj hij hoij).dst
            have hdt : oj.dst = some t := by rw [hdj]; simp only [hdj, Option.getD_some] at hx; rw [hx]
            exact (hlkd t ht _ oj _ hhj hdt ((Rs_l j).trans hRj)).pdBv
          | none =>
            rw [hk] at hq
            have hq : lookK ((d0, (.inr uAny : Pr)) :: dropR ((zipK he Rs1).reverse ++ K1)) t = some q := by simpa using hq
            by_cases e0 : d0 = t
            · subst e0
              rw [lookK_same] at hq
              injection hq with hq
              subst hq
              have hts : d0 < a.tmps.size := by rw [hI.size]; exact hdN
              exact ⟨a.tmps[d0], by simp [hts], trivial⟩
            rw [lookK_ne _ e0, lookK_dropR, lookK_append] at hq
            cases hk1 : lookK (zipK he Rs1).reverse t with
            | some q1 =>
              rw [hk1] at hq
              have : Pd q1 = q := by simpa using hq
              subst this
              have hx' : (t, q1) ∈ (zipK he Rs1).take he.length := by
                rw [List.take_of_length_le (by simp [zipK]; omega)]
                exact List.mem_reverse.1 (lookK_some hk1)
              obtain ⟨j, oj, hj, hoj, hx1, hRj⟩ := dst_zip hRl1 hx'
              have hhj := (hd_e j hj).trans hoj
              obtain ⟨ij, hij, hoij⟩ := hget' _ oj hhj
              obtain ⟨dj, hdj, _⟩ := (hhead _ ij oj hij hoij).dst
              have hdt : oj.dst = some t := by rw [hdj]; simp only [hdj, Option.getD_some] at hx1; rw [hx1]
              exact (hlkd t ht _ oj _ hhj hdt ((Rs_e j hj).trans hRj)).pdB
            | none =>
              rw [hk1] at hq
              cases hkq : lookK K1 t with
              | none => rw [hkq] at hq; simp at hq
              | some q1 =>
                rw [hkq] at hq
                have : Pd q1 = q := by simpa using hq
                subst this
                refine (hI.rest t (fun j oj hoj hdj => ?_) q1 hkq).pdB
                have hjp := hlkb t ht j oj hoj hdj
                rcases hpos j (List.getElem?_eq_some_iff.1 hoj).1 with hj | rfl | ⟨r', rfl, hr'⟩
                · rw [hd_e j hj] at hoj
                  obtain ⟨R, hR⟩ := mem_zip (i := he.length) (l := he) (j := j) (o := oj) hRl1 hj hoj hdj
                  rw [List.take_of_length_le (by simp [zipK]; omega)] at hR
                  exact lookK_none hk1 _ hR rfl
                · rw [hd_0] at hoj
                  injection hoj with hoj
                  subst hoj
                  exact e0 (Option.some.inj (hd0.symm.trans hdj))
                · rw [hd_l r'] at hoj
                  obtain ⟨R, hR⟩ := mem_zip (i := r) (l := lt) (j := r') (o := oj) hRl3 (by omega) hoj hdj
                  exact lookK_none hk _ hR rfl
        · rw [hd']
          have hi0i : i ≠ i0 := fun e => by
            have : p = E.length := by
              have h1 := (List.getElem?_eq_some_iff.1 hp); have h2 := (List.getElem?_eq_some_iff.1 hHp0)
              exact (List.getElem_inj (h₀ := h1.1) (h₁ := h2.1) hndH).1 (h1.2.trans (e.trans h2.2.symm))
            omega
          have hd0d : d ≠ d0 := fun e => by
            have := hinj hp hHp0 hoi ho0 hd' (e ▸ hd0)
            omega
          refine ih _ _ _ dr hinv' hcnt' (by rw [getD_set_ne false hi0i]; exact hdr) ⟨by simpa [Act.put] using hI.size, hI.defers, fun h => hC0 _ _ (hI.cls0 h) hex, fun h => ?_, fun t ht p' hp' => ?_, fun j oj dj Rj hdone hoj hdj hRj => ?_⟩
          · obtain ⟨y, hy, hty⟩ := hI.cls1 h
            exact ⟨y, hC1 y _ _ hy hex, by simp [Act.put, Array.getElem?_setIfInBounds, hd0d, hty]⟩
          · have hne : d ≠ t := fun e => ht p oi hoip (e ▸ hd')
            exact (hI.rest t ht p' hp').step hex hne
          · rcases wasdone j hdone with hj | rfl
            · have hjp : j ≠ p := fun e => by subst e; exact hnotdone hj
              have hne : d ≠ dj := fun e => hdd j oj hoj hjp (e ▸ hdj)
              exact (hI.has j oj dj Rj hj hoj hdj hRj).step hex hne
            · have e1 : oj = oi := Option.some.inj (hoj.symm.trans hoip)
              subst e1
              have e2 : dj = d := Option.some.inj (hdj.symm.trans hd')
              subst e2
              rw [hpr, Rs_l r] at hRj
              have e3 : Rj = R := Option.some.inj (hRj.symm.trans hR)
              subst e3
              obtain ⟨v', rfl⟩ := hinl Rj (List.mem_of_getElem? hR)
              have : okAt (.inl v') (a.put (some dj) v) dj w' := okAt.put hsz' hv
              cases dr <;> exact this
  have hu : cntU (Array.replicate ops.size false) H = H.length := by
    unfold cntU
    rw [List.filter_eq_self.2 fun i hi => by
      have := hbd i (by simp [hi])
      simp [this]]
  have hnone : ∀ q : Nat, ¬ ∃ i : Nat, H[q]? = some i ∧ (Array.replicate ops.size false).getD i false = true := fun q ⟨i, hi, hl⟩ => by
    rw [getD_replicate_false] at hl
    cases hl
  have := key H.length (Array.replicate ops.size false) a0 w.drew false ⟨by simp, fun j oj _ h => (by rw [getD_replicate_false] at h; cases h), fun x hx => (by cases hx), fun x hx => by have := hbd x (by simp [hx]); simp [this]⟩ hu (by rw [getD_replicate_false])
    ⟨hst.size, hst.defers, fun _ => hst.cls, (fun h => by cases h), fun t _ p hp => hst.slots t p hp, fun j oj d R hq => absurd hq (hnone j)⟩
  rw [← hsz] at this
  exact this
variable {K : List (Nat × Pr)} {rest : List Oper} {d : Nat} {ty : TypeId} {pos : String} {af : Array Edge} {g : Option (Nat × Bool)}
theorem WrOb.congr {K K' : List (Nat × Pr)} {o : Oper} (hK : ∀ t, lookK K t = lookK K' t) (h : WrOb P ops N C0 K o val C1) : WrOb P ops N C0 K' o val C1 := fun a w h1 h2 h3 h4 => h a w h1 h2 h3 fun t ht p hp => h4 t ht p (by rw [← hK]; exact hp)
theorem WLt.congr {Fin : List (Nat × Pr) → Prop} (hF : ∀ K K', (∀ t, lookK K t = lookK K' t) → Fin K → Fin K') {K K' : List (Nat × Pr)} {l : List Oper} (hK : ∀ t, lookK K t = lookK K' t) (h : WLt P ops Ca Fin K l) : WLt P ops Ca Fin K' l := by
  unfold WLt at h ⊢
  obtain ⟨Rs, h1, h2, h3, h4⟩ := h
  have hap : ∀ (L : List (Nat × Pr)) (t : Nat), lookK (L ++ K) t = lookK (L ++ K') t := fun L t => by rw [lookK_append, lookK_append, hK]
  refine ⟨Rs, h1, h2, hF _ _ (hap _) h3, fun i o hi => ?_⟩
  obtain ⟨R, e1, e2⟩ := h4 i o hi
  exact ⟨R, e1, e2.congr (hap _)⟩
theorem wFin_congr {o0 : Oper} {d0 : Nat} {lt tl : List Oper} : ∀ K K', (∀ t, lookK K t = lookK K' t) → WFin P ops N C0 Ca Q o0 d0 val C1 lt tl K → WFin P ops N C0 Ca Q o0 d0 val C1 lt tl K' := fun K K' hK ⟨h1, h2⟩ => by
  refine ⟨h1.congr hK, h2.congr (fun K K' hK h y => sq_fin_congr _ _ (fun t => ?_) (h y)) fun t => ?_⟩
  · by_cases e : d0 = t
    · subst e; rw [lookK_same, lookK_same]
    · rw [lookK_ne _ e, lookK_ne _ e, hK]
  · by_cases e : d0 = t
    · subst e; rw [lookK_same, lookK_same]
    · rw [lookK_ne _ e, lookK_ne _ e, lookK_dropR, lookK_dropR, hK]
def WA (P : Program) (ops : Array Oper) (N : Nat) (C0 Ca : World → Prop) (Q : Exit → Act → World → Prop) (o0 : Oper) (d0 : Nat) {σ : Type} (val : σ → Value) (C1 : σ → World → Prop) (lt tl : List Oper) (K : List (Nat × Pr)) (l : List Oper) : Prop := walk P ops C0 (WFin P ops N C0 Ca Q o0 d0 val C1 lt tl) K l
theorem wa_stepper {o0 : Oper} {d0 : Nat} {lt tl : List Oper} : Stepper P ops C0 N (WA P ops N C0 Ca Q o0 d0 val C1 lt tl) := walk_stepper wFin_congr
theorem WA_nil {o0 : Oper} {d0 : Nat} {lt tl : List Oper} (h1 : WrOb P ops N C0 K o0 val C1) (h2 : WLt P ops Ca (fun K3 => ∀ y, Sq P ops N (C1 y) Q ((d0, .inl (val y)) :: K3) tl) ((d0, .inr uAny) :: dropR K) lt) : WA P ops N C0 Ca Q o0 d0 val C1 lt tl K [] := walk_nil ⟨h1, h2⟩
theorem H_drawA {id : Nat} {l : List Oper} (E Lt T : List Nat) (i0 d0 : Nat) {o0 : Oper} (Ca : World → Prop) {σ : Type} (val : σ → Value) (C1 : σ → World → Prop) (hm : P.follows .mixedOrders = true) (hB : drawB l.toArray N [] (E ++ i0 :: Lt) T = true) (hE : sinkTB l.toArray E i0 = true) (ho0 : l[i0]? = some o0) (hd0 : o0.dst = some d0)
    (hC0 : UpC C0) (hC1 : ∀ y, UpC (C1 y)) (h0a : ∀ w, C0 w → Ca w) (h1a : ∀ y w, C1 y w → Ca w) (h : WA P l.toArray N C0 Ca Q o0 d0 val C1 (pickL l Lt) (pickL l T) K (pickL l E)) : Hc P N K C0 (.region id l.toArray true) Q := .of fun a w hst => by
  have hb : ∀ i ∈ (E ++ i0 :: Lt) ++ T, i < l.length := fun i hi => by
    simp only [drawB, Bool.and_eq_true] at hB
    simpa using List.all_eq_true.1 hB.2 i (by simpa using hi)
  have hdrew : Ext w w.drew := (Ext.refl w).drew
  unfold WA at h
  exact region_drawA E Lt T i0 d0 _ _ _ o0 hm hB hE (pickL_map fun i hi => hb i (by simp [hi])) (by simpa using ho0) (pickL_map fun i hi => hb i (by simp [hi])) (pickL_map fun i hi => hb i (by simp [hi])) hd0 hC0 hC1 h0a h1a h
    ⟨hst.size, hst.defers, fun t p hp => (let ⟨v, hv, hk⟩ := hst.slots t p hp; ⟨v, hv, Pr.up_ok hdrew hk⟩), hC0 _ _ hst.cls hdrew⟩
/-! Those that may come at any time, one by one. -/
def WL1 (P : Program) (ops : Array Oper) (Ca : World → Prop) (d : Nat) (K0 : List (Nat × Pr)) (Z : Value → Prop) (K : List (Nat × Pr)) : List Oper → Prop
  | [] => ∃ v, (∀ t, lookK K t = lookK ((d, .inl v) :: K0) t) ∧ Z v
  | [o] => o.dst = some d → ∃ v, Ob P ops Ca K o (.inl v) ∧ Z v
  | _ :: _ :: _ => True
theorem wl1_stepper {K0 : List (Nat × Pr)} {Z : Value → Prop} : Stepper P ops Ca 100000 (WL1 P ops Ca d K0 Z) where
  step := by
    intro K o rest d' R hd _ hob hrest
    match rest, hrest with
    | [], ⟨v, h1, hz⟩ =>
      intro hod
      have e : d' = d := Option.some.inj (hd.symm.trans hod)
      subst e
      have h2 := h1 d'
      rw [lookK_same, lookK_same] at h2
      injection h2 with h2
      subst h2
      exact ⟨v, hob, hz⟩
    | _ :: _, _ => trivial
  congr := by
    intro K K' l hK h
    match l, h with
    | [], ⟨v, h1, hz⟩ => exact ⟨v, fun t => (hK t).symm.trans (h1 t), hz⟩
    | [o], h => exact fun hod => let ⟨v, h1, hz⟩ := h hod; ⟨v, h1.congr hK, hz⟩
    | _ :: _ :: _, _ => trivial
theorem A_nil {Fin : List (Nat × Pr) → Prop} (h : Fin K) : WLt P ops Ca Fin K [] := by
  unfold WLt
  exact ⟨[], (fun _ h => by cases h), rfl, by simpa [zipK] using h, fun i o h => by simp at h⟩
theorem A_one {Fin : List (Nat × Pr) → Prop} {o : Oper} (hd : o.dst = some d) (h : WL1 P ops Ca d K (fun v => WLt P ops Ca Fin ((d, .inl v) :: K) rest) K [o]) : WLt P ops Ca Fin K (o :: rest) := by
  obtain ⟨v, hob, hZ⟩ := h hd
  unfold WLt at hZ ⊢
  obtain ⟨Rs, h1, h2, h3, h4⟩ := hZ
  have hz : zipK (o :: rest) (.inl v :: Rs) = (d, .inl v) :: zipK rest Rs := by simp [zipK, hd]
  refine ⟨.inl v :: Rs, fun R hR => ?_, by simp [h2], by rw [hz]; simpa using h3, fun i o' hi => ?_⟩
  · rcases List.mem_cons.1 hR with rfl | hR
    · exact ⟨v, rfl⟩
    · exact h1 R hR
  · cases i with
    | zero =>
      simp at hi
      subst hi
      exact ⟨.inl v, rfl, by simpa using hob⟩
    | succ i =>
      obtain ⟨R', e1, e2⟩ := h4 i o' (by simpa using hi)
      exact ⟨R', by simpa using e1, by rw [hz]; simpa using e2⟩
theorem A_end {K0 : List (Nat × Pr)} {v : Value} {Z : Value → Prop} (h : Z v) : WL1 P ops Ca d K0 Z ((d, .inl v) :: K0) [] := ⟨v, fun _ => rfl, h⟩
/-! The writer, from what is known of an operation in a row. -/
def KIn (L : List Nat) (K : List (Nat × Pr)) : List (Nat × Pr) → Prop
  | [] => True
  | (t, p) :: K' => (L.contains t = true ∧ lookK K t = some p) ∧ KIn L K K'
theorem KIn.spec {L : List Nat} {K : List (Nat × Pr)} : ∀ {K' : List (Nat × Pr)}, KIn L K K' → ∀ t p, lookK K' t = some p → t ∈ L ∧ lookK K t = some p
  | [], _, t, p, h => by cases h
  | (s, q) :: K', ⟨h1, h2⟩, t, p, h => by
    by_cases e : s = t
    · subst e
      rw [lookK_same] at h
      injection h with h
      subst h
      exact ⟨by simpa using h1.1, h1.2⟩
    · rw [lookK_ne _ e] at h
      exact h2.spec t p h
def Qx (d : Nat) {σ : Type} (val : σ → Value) (C1 : σ → World → Prop) : Exit → Act → World → Prop
  | .normal, a, w => ∃ y, a.tmps[d]? = some (val y) ∧ C1 y w
  | _, _, _ => False
theorem gives_of_sq {o : Oper} {a : Act} {w : World} (hd : o.dst = some d) (hsz : d < a.tmps.size) (hw : Region.wanted o (yielded ops a.tmps) = true) (hval : ∀ n w', (execOp a.eval o).run P w = .ok n w' → ∃ v, n = .value v) (h : wpList P ops (Qx d val C1) [o] a w) : gives P o a w (fun v w' => ∃ y, v = val y ∧ C1 y w') := by
  unfold wpList at h
  rw [if_pos hw] at h
  rcases h with h | ⟨_, a', w', h⟩
  · unfold Oper.wp at h
    unfold gives
    have hput : ∀ (v : Value), (a.put o.dst v).tmps[d]? = some v := fun v => by rw [hd]; simp [Act.put, Array.getElem?_setIfInBounds, hsz]
    generalize (execOp a.eval o).run P w = r at h hval
    cases r with
    | ok n w' =>
      obtain ⟨v, rfl⟩ := hval n w' rfl
      obtain ⟨y, h1, h2⟩ : ∃ y, (a.put o.dst v).tmps[d]? = some (val y) ∧ C1 y w' := h
      rw [hput] at h1
      injection h1 with h1
      exact ⟨y, h1, h2⟩
    | halt x w' => cases x <;> exact absurd h (by first | exact id | (intro h; exact h.elim))
  · exact (h : False).elim
theorem WrOb_sq {o : Oper} (K' : List (Nat × Pr)) (hK : KIn (o.looksAt ops) K K') (hd : o.dst = some d) (hN : Nat.blt d N = true) (hg : o.guard = none) (hval : ∀ (a : Act) (w : World) n w', (execOp a.eval o).run P w = .ok n w' → ∃ v, n = .value v) (h : Sq P ops N C0 (Qx d val C1) K' [o]) : WrOb P ops N C0 K o val C1 := fun a w h1 h2 h3 h4 => by
  have hw : Region.wanted o (yielded ops a.tmps) = true := by unfold Region.wanted; rw [hg]
  unfold Sq at h
  have hsz : d < a.tmps.size := by rw [h1]; exact Nat.le_of_ble_eq_true hN
  exact ⟨hw, gives_of_sq hd hsz hw (hval a w) (h a w ⟨h1, h2, fun t p hp => (let ⟨hm, hl⟩ := hK.spec t p hp; h4 t hm p hl), h3⟩)⟩
/-- .. an append to a slice of one's own. -/
theorem WrOb_appS (m : Nat) {w0 : World} {L : List Osl} {α : Type} {Ψ : Phi α} {xs zs : List α} {v : Value} {es : Option TypeId} {t e : TypeId} {s1 s2 : Nat} (hs : Nat.beq s1 s2 = false) (hm : L[m]? = some (.sl α e Ψ xs v)) (hav : avAll L e) (hk : Nat.blt 0 Ψ.k = true) (hB : appB P t e Ψ.k = true) (hN : Nat.blt d N = true)
    (hx : lookK K s1 = some (.inl v)) (hy : lookK K s2 = some (.inr (uS es Ψ zs))) (hb : xs.length + zs.length ≤ 1073741824 ∧ 0 < zs.length) :
    WrOb P ops N (Sep w0 L) K ⟨some d, .call { callee := .builtin .append, args := #[.tmp s1, .tmp s2], argTypes := #[t, t] }, ty, pos, af, none⟩ (fun v' : Value => v') (fun v' => Sep w0 (L.set m (.sl α e Ψ (xs ++ zs) v'))) := by
  have hne : s1 ≠ s2 := fun e => by subst e; rw [Nat.beq_refl] at hs; cases hs
  have hlk : (Oper.looksAt ops ⟨some d, .call { callee := .builtin .append, args := #[.tmp s1, .tmp s2], argTypes := #[t, t] }, ty, pos, af, none⟩) = [s1, s2] := by
    simp [Oper.looksAt, Op.operands, Call.operands]
  refine WrOb_sq [(s1, .inl v), (s2, .inr (uS es Ψ zs))] (by rw [hlk]; exact ⟨⟨by simp, hx⟩, ⟨by simp, hy⟩, trivial⟩) rfl hN rfl (fun a w n w' hr => ?_) ?_
  · simp only [execOp, resolve, invoke, builtin, Sem.run_bind, Sem.run_pure, Result.andThen_ok] at hr
    generalize (Builtin.append_ _ _ _).run P w = r at hr
    cases r with
    | ok v w1 => simp only [Result.andThen_ok] at hr; first | exact ⟨_, (Result.ok.inj hr).1.symm⟩ | (injection hr with hr; exact ⟨_, hr.symm⟩)
    | halt x w1 => simp at hr
  refine Sq_appS m hm hav hk hB hN (lookK_same _ _ _) ((lookK_ne _ hne).trans (lookK_same _ _ _)) hb (fun v' => Sq_nil (.of fun a w hst => ⟨v', ?_, hst.cls⟩))
  obtain ⟨u, hu, hk⟩ := hst.slots d _ (lookK_same _ _ _)
  rw [hu, show u = v' from hk]
end
end Go.Proofs.Ytanlaggnhocjhaa

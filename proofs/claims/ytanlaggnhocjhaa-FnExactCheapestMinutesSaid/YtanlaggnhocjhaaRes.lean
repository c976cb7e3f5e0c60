/- More rules: boxes of known structs as blocks of one's own, empty structs, results of which the first is in a cell. -/
import Derived.Test.YtanlaggnhocjhaaDrs
import Derived.Test.YtanlaggnhocjhaaSubV
namespace Go.Proofs.Ytanlaggnhocjhaa
set_option linter.unusedSimpArgs false
set_option linter.unusedVariables false
open Go.RowKit Go.ChangeShapes Go.WideShapes Go.ChangeAt Go.Deep
theorem Sep.app {w0 w : World} {L1 L2 : List Osl} (h : Sep w0 (L1 ++ L2) w) : Sep w0 L2 w := by
  induction L1 with
  | nil => exact h
  | cons o L1 ih => exact ih (Sep.drop h)
theorem Sep.appL {w0 w : World} {L1 L2 : List Osl} (h : Sep w0 (L1 ++ L2) w) : Sep w0 L1 w := (h.perm List.perm_append_comm).app
theorem set_last {α : Type _} {L : List α} {o o' : α} {n : Nat} (h : n = L.length) : (L ++ [o]).set n o' = L ++ [o'] := by
  subst h
  rw [List.set_append_right _ _ (Nat.le_refl _), Nat.sub_self]
  rfl
theorem set_mid {α : Type _} {L L2 : List α} {o o' : α} {n : Nat} (h : n = L.length) : (L ++ o :: L2).set n o' = L ++ o' :: L2 := by
  subst h
  rw [List.set_append_right _ _ (Nat.le_refl _), Nat.sub_self]
  rfl
theorem get_last {α : Type _} {L : List α} {o : α} : (L ++ [o])[L.length]? = some o := by simp
theorem get_mid {α : Type _} {L L2 : List α} {o : α} : (L ++ o :: L2)[L.length]? = some o := by simp
theorem sl_one {w0 w : World} {α : Type} {e : TypeId} {Ψ : Phi α} {xs : List α} {v : Value} {L : List Osl} (h : Sep w0 (.sl α e Ψ xs v :: L) w) : v.oneCell' = true := by
  obtain ⟨A, c, cs, ⟨p, h1, _⟩, _⟩ := h.get (m := 0) rfl
  rw [h1]
  rfl
section
variable {P : Program} {ops : Array Oper} {C : World → Prop} {Q : Exit → Act → World → Prop} {N : Nat} {M : List (Nat × Pr) → List Oper → Prop} {K : List (Nat × Pr)} {rest : List Oper} {d : Nat} {op : Op} {ty : TypeId} {pos : String} {af : Array Edge} {g : Option (Nat × Bool)} {w0 : World} {L : List Osl}
/-- A call that makes memory of its own, which the caller owns then. -/
theorem Sq_ctxD {f : FuncId} {xs : Array Operand} {ats : Array TypeId} {ps : List Pr} {σ : Type} {L1 : σ → List Osl} {p : σ → Prop} {R : σ → Pr} (hct : ∀ w1, CTX P f (fun u => u = w1) ps (fun y w' => Sep w1 (L1 y) w' ∧ p y) R) (hN : Nat.blt d N = true) (hargs : knAll K xs.toList = some ps) (hB : callB P f = true)
    (h : ∀ y, p y → Sq P ops N (Sep w0 (L1 y ++ L)) Q ((d, R y) :: K) rest) : Sq P ops N (Sep w0 L) Q K (⟨some d, .call { callee := .value (.func f), args := xs, argTypes := ats }, ty, pos, af, none⟩ :: rest) := by
  unfold Sq
  intro a w hst
  refine wpList_plain rfl fun K' hK' => ?_
  unfold Oper.wp
  rw [run_call hB rfl]
  simp only [Oper.upon]
  have hall := knAll_ok (ρ := a.eval) (w := w) xs.toList ps hargs fun x hx p hp => kn_val hst hp
  have hc := hct w w _ rfl hall
  have e1 : (xs.toList.map a.eval).toArray = xs.map a.eval := by
    apply Array.ext'
    simp
  rw [e1] at hc
  refine hc.mono fun en w' ⟨v, he, y, ⟨hS, hp⟩, hR⟩ => ?_
  subst he
  have hsq := h y hp
  unfold Sq at hsq
  have hst0 := hst.cls' (C' := fun _ => True) trivial
  have hst2 := hst0.step (d := d) (R := R y) (v := v) (fun _ _ _ _ => trivial) hS.ext (Nat.le_of_ble_eq_true hN) hR
  exact hK' _ _ (hsq _ _ (hst2.cls' (hst.cls.joinR hS)))
end
section
variable {P : Program} {ops : Array Oper} {C : World → Prop} {Q : Exit → Act → World → Prop} {N : Nat} {M : List (Nat × Pr) → List Oper → Prop} {K : List (Nat × Pr)} {rest : List Oper} {d : Nat} {op : Op} {ty : TypeId} {pos : String} {af : Array Edge} {g : Option (Nat × Bool)} {w0 : World} {L : List Osl}
theorem W_build2V (hM : Stepper P ops C N M) {x0 x1 : Operand} {v0 v1 : Value} {t : TypeId} (cs : List Value) (h0 : kn K x0 = some (.inl v0)) (h1 : kn K x1 = some (.inl v1))
    (hb : P.built t [(0, v0), (1, v1)] = some cs.toArray) (hg : wantedK ops K g = some true) (hN : Nat.blt d N = true)
    (h : M ((d, .inl (.agg cs.toArray)) :: K) rest) : M K (⟨some d, .build t #[(0, x0), (1, x1)], ty, pos, af, g⟩ :: rest) :=
  W_val hM hN hg (fun ρ w _ hk => by
    have e0 : ρ x0 = v0 := hk x0 (by simp [Op.operands]) _ h0
    have e1 : ρ x1 = v1 := hk x1 (by simp [Op.operands]) _ h1
    have hr := Go.run_build (P := P) w t #[(0, v0), (1, v1)] cs.toArray hb
    simp [execOp, e0, e1, hr]) h
theorem W_build1V (hM : Stepper P ops C N M) {x0 : Operand} {v0 : Value} {t : TypeId} {j : Nat} (cs : List Value) (h0 : kn K x0 = some (.inl v0))
    (hb : P.built t [(j, v0)] = some cs.toArray) (hg : wantedK ops K g = some true) (hN : Nat.blt d N = true)
    (h : M ((d, .inl (.agg cs.toArray)) :: K) rest) : M K (⟨some d, .build t #[(j, x0)], ty, pos, af, g⟩ :: rest) :=
  W_val hM hN hg (fun ρ w _ hk => by
    have e0 : ρ x0 = v0 := hk x0 (by simp [Op.operands]) _ h0
    have hr := Go.run_build (P := P) w t #[(j, v0)] cs.toArray hb
    simp [execOp, e0, hr]) h
theorem W_build0V (hM : Stepper P ops C N M) {t : TypeId} (cs : List Value) (hb : P.built t [] = some cs.toArray) (hg : wantedK ops K g = some true) (hN : Nat.blt d N = true)
    (h : M ((d, .inl (.agg cs.toArray)) :: K) rest) : M K (⟨some d, .build t #[], ty, pos, af, g⟩ :: rest) :=
  W_val hM hN hg (fun ρ w _ hk => by
    have hr := Go.run_build (P := P) w t #[] cs.toArray hb
    simp [execOp, hr]) h
/-- A slice of one's own is told by a slice. -/
theorem Sq_slE (m : Nat) {α : Type} {e : TypeId} {Ψ : Phi α} {xs : List α} {v : Value} {l : List Oper} (hm : L[m]? = some (.sl α e Ψ xs v)) (h : ∀ p c, v = .slice p xs.length c → Sq P ops N (Sep w0 L) Q K l) : Sq P ops N (Sep w0 L) Q K l := by
  unfold Sq at h ⊢
  intro a w hst
  obtain ⟨A, c, cs, ⟨p, h1, _⟩, _⟩ := hst.cls.get hm
  exact h p c h1 a w hst
theorem Sq_ctxG {f : FuncId} {xs : Array Operand} {ats : Array TypeId} {ps : List Pr} {σ : Type} {C' : σ → World → Prop} {R : σ → Pr} (hct : CTX P f C ps C' R) (hg : wantedK ops K g = some true) (hN : Nat.blt d N = true) (hargs : knAll K xs.toList = some ps) (hB : callB P f = true)
    (h : ∀ y, Sq P ops N (C' y) Q ((d, R y) :: dropR K) rest) : Sq P ops N C Q K (⟨some d, .call { callee := .value (.func f), args := xs, argTypes := ats }, ty, pos, af, g⟩ :: rest) := by
  unfold Sq
  intro a w hst
  unfold wpList
  rw [if_pos (wantedK_spec hg fun t _ p hp => hst.slots t p hp)]
  refine .inl ?_
  unfold Oper.wp
  rw [run_call hB rfl]
  simp only [Oper.upon]
  have hall := knAll_ok (ρ := a.eval) (w := w) xs.toList ps hargs fun x hx p hp => kn_val hst hp
  have hc := hct w _ hst.cls hall
  have e1 : (xs.toList.map a.eval).toArray = xs.map a.eval := by
    apply Array.ext'
    simp
  rw [e1] at hc
  refine hc.mono fun en w' ⟨v, he, y, hC', hR⟩ => ?_
  subst he
  have hsq := h y
  unfold Sq at hsq
  have hst1 := hst.turned (w' := w') (C' := fun _ => True) trivial
  have hst2 := hst1.step (d := d) (R := R y) (v := v) (fun _ _ _ _ => trivial) (Ext.refl _) (Nat.le_of_ble_eq_true hN) hR
  exact hsq _ _ (hst2.cls' hC')
/-- What a slot holds gets a name, and its memory. -/
theorem Sq_openN {β : Type} {O : Ow β} {x : β} {s : Nat} {l : List Oper} (t : Nat) (ht : lookK K t = some (.inr (uO s O x))) (h : ∀ q v S, C q → (∀ b, S b → s ≤ b ∧ b < q.heap.size) → O.R x S v q → Sq P ops N (Ext q) Q ((t, .inl v) :: K) l) : Sq P ops N C Q K l := by
  unfold Sq at h ⊢
  intro a w hst
  obtain ⟨v, hv, S, hS, hR⟩ := hst.slots t _ ht
  refine h w v S hst.cls hS hR a w ⟨hst.size, hst.defers, fun u p hp => ?_, Ext.refl _⟩
  by_cases e : t = u
  · subst e
    rw [lookK_same] at hp
    injection hp with hp
    subst hp
    exact ⟨v, hv, rfl⟩
  · rw [lookK_ne _ e] at hp
    exact hst.slots u p hp
theorem Sq_pure {p : Prop} {l : List Oper} (h : p → Sq P ops N C Q K l) : Sq P ops N (fun w => C w ∧ p) Q K l := by
  unfold Sq at h ⊢
  exact fun a w hst => h hst.cls.2 a w (hst.cls' hst.cls.1)
/-- A box of a struct whose cells are known. -/
theorem Sq_boxS {x : Operand} {t : TypeId} {cs : List Value} (hN : Nat.blt d N = true) (hx : kn K x = some (.inl (.agg cs.toArray)))
    (h : ∀ g, Sq P ops N (Sep w0 (.raw t g cs :: L)) Q ((d, .inl (.pointer (some ⟨g, 0, none⟩))) :: K) rest) : Sq P ops N (Sep w0 L) Q K (⟨some d, .box t x, ty, pos, af, none⟩ :: rest) := by
  unfold Sq
  intro a w hst
  obtain ⟨Bs, hl, hc⟩ := (by have := hst.cls; unfold Sep at this; exact this : ∃ Bs : BL, Bs.length = L.length ∧ Cls w0 Bs (FctL L Bs) w)
  have key := Sq_boxC (P := P) (ops := ops) (Q := Q) (rest := rest) (ty := ty) (pos := pos) (af := af) (F := FctL L Bs) (t := t) upC_fct hN hx (fun g hg => by
    refine Sq_weaken (fun w' hw => ?_) (h g)
    exact sep_cons hl hw rfl)
  unfold Sq at key
  exact key a w (hst.cls' hc)
theorem hp_ag {α : Type} {Ψ : Phi α} {x z : α} {cs : List Value} (hφ : ∀ w, Ψ.φ z cs w) : ∀ u w c, Pr.ok (.inl (.agg cs.toArray)) u w → Ψ.φ x c w → ∃ vs : List Value, u.cells = vs.toArray ∧ vs.length = Ψ.k ∧ (∀ r ∈ vs, r.oneCell' = true) ∧ Ψ.φ z (putL c 0 vs) w := fun u w c hu hc => by
  obtain rfl : u = .agg cs.toArray := hu
  have h1 := Ψ.len _ _ _ (hφ w)
  exact ⟨cs, rfl, h1, Ψ.one _ _ _ (hφ w), by rw [putL_all (by rw [h1, Ψ.len _ _ _ hc])]; exact hφ w⟩
/-! Results of which the first is in a cell. -/
theorem run_cellB {w : World} {b k : Nat} {e ty : TypeId} {cs : List Value} (hB : aggB P ty k = true) (hb : Blk w b e cs) (hk : cs.length = k) : (loadVar ty ⟨b, 0, none⟩).run P w = .ok (.agg cs.toArray) w := by
  have hr := run_loadCells_list (P := P) w ⟨b, 0, none⟩ cs (fun j v hj => by rw [Addr.add_lit, Nat.zero_add]; exact hb.cell hj)
  rw [hk] at hr
  simp [loadVar, isAgg_true hB, aggB_size hB, hr]
theorem RX_c1 (m : Nat) {fn : Func} {σ : Type} {C' : σ → World → Prop} {R : σ → Pr} {t t2 : Nat} {p2 : Pr} {e ty : TypeId} {b k : Nat} {cs : List Value} (hres : fn.results = #[.cell t ty, .tmp t2]) (hB : aggB P ty k = true) (ht : lookK K t = some (.inl (.pointer (some ⟨b, 0, none⟩)))) (h2 : lookK K t2 = some p2) (hm : L[m]? = some (.raw e b cs)) (hk : cs.length = k)
    (hR : ∀ v2 w, Sep w0 L w → p2.ok v2 w → ∃ y, C' y w ∧ (R y).ok (.tuple #[.agg cs.toArray, v2]) w) : Go_ N K (Sep w0 L) (bodyPost P fn (PostX C' R) .ret) := .of fun a w hst => by
  have hv : (a.tmps.getD t undef) = .pointer (some ⟨b, 0, none⟩) := hst.get ht
  have hr := run_cellB hB (hst.cls.raw hm) hk
  refine ⟨hst.defers, .tuple #[.agg cs.toArray, a.tmps.getD t2 undef], ?_, _, rfl, hR _ _ hst.cls (hst.get h2)⟩
  have hv' : (a.tmps[t]?).getD undef = .pointer (some ⟨b, 0, none⟩) := by simpa using hv
  simp [results, hres, hv', asAddr, hr]
theorem RX_c2 (m : Nat) {fn : Func} {σ : Type} {C' : σ → World → Prop} {R : σ → Pr} {t t2 t3 : Nat} {p2 p3 : Pr} {e ty : TypeId} {b k : Nat} {cs : List Value} (hres : fn.results = #[.cell t ty, .tmp t2, .tmp t3]) (hB : aggB P ty k = true) (ht : lookK K t = some (.inl (.pointer (some ⟨b, 0, none⟩)))) (h2 : lookK K t2 = some p2) (h3 : lookK K t3 = some p3) (hm : L[m]? = some (.raw e b cs)) (hk : cs.length = k)
    (hR : ∀ v2 v3 w, Sep w0 L w → p2.ok v2 w → p3.ok v3 w → ∃ y, C' y w ∧ (R y).ok (.tuple #[.agg cs.toArray, v2, v3]) w) : Go_ N K (Sep w0 L) (bodyPost P fn (PostX C' R) .ret) := .of fun a w hst => by
  have hv : (a.tmps.getD t undef) = .pointer (some ⟨b, 0, none⟩) := hst.get ht
  have hr := run_cellB hB (hst.cls.raw hm) hk
  refine ⟨hst.defers, .tuple #[.agg cs.toArray, a.tmps.getD t2 undef, a.tmps.getD t3 undef], ?_, _, rfl, hR _ _ _ hst.cls (hst.get h2) (hst.get h3)⟩
  have hv' : (a.tmps[t]?).getD undef = .pointer (some ⟨b, 0, none⟩) := by simpa using hv
  simp [results, hres, hv', asAddr, hr]
theorem R_c1 (m : Nat) {fn : Func} {w00 : World} {q1 q2 p2 : Pr} {t t2 : Nat} {e ty : TypeId} {b k : Nat} {cs : List Value} (hres : fn.results = #[.cell t ty, .tmp t2]) (hB : aggB P ty k = true) (hE : ∀ w, Sep w0 L w → Ext w00 w) (ht : lookK K t = some (.inl (.pointer (some ⟨b, 0, none⟩)))) (h2 : lookK K t2 = some p2) (hm : L[m]? = some (.raw e b cs)) (hk : cs.length = k)
    (hq1 : ∀ w, Sep w0 L w → q1.ok (.agg cs.toArray) w) (hq2 : ∀ v w, Sep w0 L w → p2.ok v w → q2.ok v w) : Go_ N K (Sep w0 L) (bodyPost P fn (Post w00 (.inr (uT [q1, q2]))) .ret) := .of fun a w hst => by
  have hv : (a.tmps.getD t undef) = .pointer (some ⟨b, 0, none⟩) := hst.get ht
  have hr := run_cellB hB (hst.cls.raw hm) hk
  refine ⟨hst.defers, .tuple #[.agg cs.toArray, a.tmps.getD t2 undef], ?_, _, rfl, hE _ hst.cls, [_, _], rfl, hq1 _ hst.cls, hq2 _ _ hst.cls (hst.get h2), trivial⟩
  have hv' : (a.tmps[t]?).getD undef = .pointer (some ⟨b, 0, none⟩) := by simpa using hv
  simp [results, hres, hv', asAddr, hr]
theorem R_c2 (m : Nat) {fn : Func} {w00 : World} {q1 q2 q3 p2 p3 : Pr} {t t2 t3 : Nat} {e ty : TypeId} {b k : Nat} {cs : List Value} (hres : fn.results = #[.cell t ty, .tmp t2, .tmp t3]) (hB : aggB P ty k = true) (hE : ∀ w, Sep w0 L w → Ext w00 w) (ht : lookK K t = some (.inl (.pointer (some ⟨b, 0, none⟩)))) (h2 : lookK K t2 = some p2) (h3 : lookK K t3 = some p3) (hm : L[m]? = some (.raw e b cs)) (hk : cs.length = k)
    (hq1 : ∀ w, Sep w0 L w → q1.ok (.agg cs.toArray) w) (hq2 : ∀ v w, Sep w0 L w → p2.ok v w → q2.ok v w) (hq3 : ∀ v w, Sep w0 L w → p3.ok v w → q3.ok v w) : Go_ N K (Sep w0 L) (bodyPost P fn (Post w00 (.inr (uT [q1, q2, q3]))) .ret) := .of fun a w hst => by
  have hv : (a.tmps.getD t undef) = .pointer (some ⟨b, 0, none⟩) := hst.get ht
  have hr := run_cellB hB (hst.cls.raw hm) hk
  refine ⟨hst.defers, .tuple #[.agg cs.toArray, a.tmps.getD t2 undef, a.tmps.getD t3 undef], ?_, _, rfl, hE _ hst.cls, [_, _, _], rfl, hq1 _ hst.cls, hq2 _ _ hst.cls (hst.get h2), hq3 _ _ hst.cls (hst.get h3), trivial⟩
  have hv' : (a.tmps[t]?).getD undef = .pointer (some ⟨b, 0, none⟩) := by simpa using hv
  simp [results, hres, hv', asAddr, hr]
/-- .. of local structs. -/
theorem Sep.aCell {w : World} (h : Sep w0 L w) {m : Nat} {α : Type} [Inhabited α] {e ty : TypeId} {Ψ : Phi α} {z : α} {v : Value} (hB : aggB P ty Ψ.k = true) (hm : L[m]? = some (.sl α e Ψ [z] v)) : ∃ b c, ptrAt v 0 Ψ.k 0 = .pointer (some ⟨b, 0, none⟩) ∧ (loadVar ty ⟨b, 0, none⟩).run P w = .ok (.agg c.toArray) w ∧ Ψ.φ z c w := by
  obtain ⟨b, c, h1, h2, h3⟩ := h.cell hm proj_self (i := 0) (by simp)
  have h3' : Ψ.φ z c w := h3
  have hr := run_loadCells_list (P := P) w ⟨b, (0 : Int).toNat * Ψ.k + 0, none⟩ c (fun j v hj => by rw [Addr.add_lit]; exact h2 j v hj)
  rw [Ψ.len _ _ _ h3'] at hr
  have e0 : (0 : Int).toNat * Ψ.k + 0 = 0 := by simp
  rw [e0] at hr h1
  exact ⟨b, c, h1, by simp [loadVar, isAgg_true hB, aggB_size hB, hr], h3'⟩
theorem RS_c1 (m : Nat) {fn : Func} {w00 : World} {α : Type} [Inhabited α] {Ψ : Phi α} {z z' : α} {v : Value} {t t2 : Nat} {p2 q2 : Pr} {e ty : TypeId} (hres : fn.results = #[.cell t ty, .tmp t2]) (hB : aggB P ty Ψ.k = true) (hE : ∀ w, Sep w0 L w → Ext w00 w) (ht : lookK K t = some (.inl (ptrAt v 0 Ψ.k 0))) (h2 : lookK K t2 = some p2) (hm : L[m]? = some (.sl α e Ψ [z] v)) (hz : z = z')
    (hq2 : ∀ v w, Sep w0 L w → p2.ok v w → q2.ok v w) : Go_ N K (Sep w0 L) (bodyPost P fn (Post w00 (.inr (uT [.inr (uA Ψ z'), q2]))) .ret) := .of fun a w hst => by
  subst hz
  obtain ⟨b, c, h1, hr, h3⟩ := hst.cls.aCell (P := P) hB hm
  have hv : (a.tmps.getD t undef) = ptrAt v 0 Ψ.k 0 := hst.get ht
  rw [h1] at hv
  refine ⟨hst.defers, .tuple #[.agg c.toArray, a.tmps.getD t2 undef], ?_, _, rfl, hE _ hst.cls, [_, _], rfl, ⟨c, rfl, h3⟩, hq2 _ _ hst.cls (hst.get h2), trivial⟩
  have hv' : (a.tmps[t]?).getD undef = .pointer (some ⟨b, 0, none⟩) := by simpa using hv
  simp [results, hres, hv', asAddr, hr]
theorem RS_c2 (m : Nat) {fn : Func} {w00 : World} {α : Type} [Inhabited α] {Ψ : Phi α} {z z' : α} {v : Value} {t t2 t3 : Nat} {p2 q2 p3 q3 : Pr} {e ty : TypeId} (hres : fn.results = #[.cell t ty, .tmp t2, .tmp t3]) (hB : aggB P ty Ψ.k = true) (hE : ∀ w, Sep w0 L w → Ext w00 w) (ht : lookK K t = some (.inl (ptrAt v 0 Ψ.k 0))) (h2 : lookK K t2 = some p2) (h3 : lookK K t3 = some p3) (hm : L[m]? = some (.sl α e Ψ [z] v)) (hz : z = z')
    (hq2 : ∀ v w, Sep w0 L w → p2.ok v w → q2.ok v w) (hq3 : ∀ v w, Sep w0 L w → p3.ok v w → q3.ok v w) : Go_ N K (Sep w0 L) (bodyPost P fn (Post w00 (.inr (uT [.inr (uA Ψ z'), q2, q3]))) .ret) := .of fun a w hst => by
  subst hz
  obtain ⟨b, c, h1, hr, h4⟩ := hst.cls.aCell (P := P) hB hm
  have hv : (a.tmps.getD t undef) = ptrAt v 0 Ψ.k 0 := hst.get ht
  rw [h1] at hv
  refine ⟨hst.defers, .tuple #[.agg c.toArray, a.tmps.getD t2 undef, a.tmps.getD t3 undef], ?_, _, rfl, hE _ hst.cls, [_, _, _], rfl, ⟨c, rfl, h4⟩, hq2 _ _ hst.cls (hst.get h2), hq3 _ _ hst.cls (hst.get h3), trivial⟩
  have hv' : (a.tmps[t]?).getD undef = .pointer (some ⟨b, 0, none⟩) := by simpa using hv
  simp [results, hres, hv', asAddr, hr]
/-! A slice of one's own gets shorter. -/
theorem Sep.cut {w : World} (h : Sep w0 L w) {m : Nat} {e : TypeId} {xs : List Int} {v : Value} {k : Int} (hm : L[m]? = some (.sl Int e pI xs v)) (hk : 0 ≤ k ∧ k < (xs.length : Int)) : Sep w0 (L.set m (.sl Int e pI (xs.take k.toNat) (subV v 0 k))) w := by
  unfold Sep at h ⊢
  obtain ⟨Bs, hl, hc⟩ := h
  refine ⟨Bs, by simp [hl], hc.fact fun hf m' o x hm' hx => ?_⟩
  by_cases em : m = m'
  · subst em
    have hml : m < L.length := (List.getElem?_eq_some_iff.1 hm).1
    rw [List.getElem?_set_self hml] at hm'
    injection hm' with hm'
    subst hm'
    obtain ⟨A, e', cs⟩ := x
    obtain ⟨c, h1, ⟨p, h2, h2p⟩, h3, h4, h5, h6, h7⟩ := hf m _ _ hm hx
    simp only at h1 h2 h2p h5 h6 h7
    subst h1 h2
    cases A with
    | none => have := h6 rfl; subst this; simp at hk; omega
    | some b =>
      obtain rfl := h2p.some_
      refine ⟨c, rfl, ⟨some ⟨b, 0, none⟩, ?_, .inl rfl⟩, by rw [List.length_take]; omega, h4, h5, (fun h => by cases h), fun j z hz => ?_⟩
      · rw [List.length_take, show min k.toNat xs.length = k.toNat by omega]
        simp only [subV, aOf]
        try simp
        try rfl
      · rw [List.getElem?_take] at hz
        split at hz
        · exact h7 j z hz
        · cases hz
  · rw [List.getElem?_set_ne em] at hm'
    exact hf m' o x hm' hx
end
end Go.Proofs.Ytanlaggnhocjhaa

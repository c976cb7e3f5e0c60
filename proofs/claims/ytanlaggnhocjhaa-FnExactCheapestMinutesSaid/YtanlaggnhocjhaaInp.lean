/-
  Functions that change what their caller owns: contracts from own memory to own memory; functions as values that are known; a slice of one's own that is sorted in place.
-/
import Derived.Test.YtanlaggnhocjhaaVals
import Derived.Test.YtanlaggnhocjhaaDrw
namespace Go.Proofs.Ytanlaggnhocjhaa
set_option linter.unusedSimpArgs false
set_option linter.unusedVariables false
open Go.RowKit

/-! ### The list of what is owned -/
theorem set_same' {α : Type _} {L : List α} {m : Nat} {o : α} (h : L[m]? = some o) : L.set m o = L := by
  apply List.ext_getElem?
  intro i
  rw [List.getElem?_set]
  split
  · rename_i e
    subst e
    obtain ⟨h1, h2⟩ := List.getElem?_eq_some_iff.1 h
    rw [if_pos h1, ← h2, List.getElem?_eq_getElem h1]
  · rfl
theorem hm_set {α : Type _} {L : List α} {m : Nat} {o o' : α} (h : L[m]? = some o) : (L.set m o')[m]? = some o' := by
  have := (List.getElem?_eq_some_iff.1 h).1
  simp [this]
theorem hm_far {α : Type _} {L : List α} {m k : Nat} {o o' : α} (h : L[k]? = some o) (hne : m ≠ k) : (L.set m o')[k]? = some o := by
  rw [List.getElem?_set_ne hne]
  exact h
theorem avAll.set : ∀ {L : List Osl} {t : TypeId} {m : Nat} {o : Osl}, avAll L t → o.Av t → avAll (L.set m o) t
  | [], _, _, _, h, _ => h
  | _ :: _, _, 0, _, h, ho => ⟨ho, h.2⟩
  | _ :: L, _, _ + 1, _, h, ho => ⟨h.1, avAll.set (L := L) h.2 ho⟩
theorem avAll.app : ∀ {L L' : List Osl} {t : TypeId}, avAll L t → avAll L' t → avAll (L ++ L') t
  | [], _, _, _, h => h
  | _ :: L, _, _, h, h' => ⟨h.1, avAll.app (L := L) h.2 h'⟩
theorem filterMap_perm {α β : Type _} {f : α → Option β} {l l' : List α} (h : l.Perm l') : (l.filterMap f).Perm (l'.filterMap f) := h.filterMap f
/-- The order of what is owned does not count. -/
theorem Sep.perm {w0 w : World} {L L' : List Osl} (hp : L.Perm L') (h : Sep w0 L w) : Sep w0 L' w := by
  have key : ∀ {L L' : List Osl}, L.Perm L' → ∀ Bs : BL, Bs.length = L.length → ∃ Bs', Bs.Perm Bs' ∧ Bs'.length = L'.length ∧ (FctL L Bs w → FctL L' Bs' w) := by
    intro L L' hp
    induction hp with
    | nil => exact fun Bs hl => ⟨Bs, .refl _, hl, id⟩
    | cons o hp ih =>
      intro Bs hl
      cases Bs with
      | nil => simp at hl
      | cons x Bs =>
        obtain ⟨Bs', h1, h2, h3⟩ := ih Bs (by simpa using hl)
        refine ⟨x :: Bs', h1.cons x, by simp [h2], fun hf m o' x' hm hx => ?_⟩
        cases m with
        | zero => exact hf 0 o' x' (by simpa using hm) (by simpa using hx)
        | succ m => exact h3 (fun m o x h1 h2 => hf (m + 1) o x (by simpa using h1) (by simpa using h2)) m o' x' (by simpa using hm) (by simpa using hx)
    | swap o o' L =>
      intro Bs hl
      match Bs, hl with
      | x :: y :: Bs, hl =>
        refine ⟨y :: x :: Bs, .swap _ _ _, by simpa using hl, fun hf m o'' x' hm hx => ?_⟩
        match m with
        | 0 => exact hf 1 _ _ (by simpa using hm) (by simpa using hx)
        | 1 => exact hf 0 _ _ (by simpa using hm) (by simpa using hx)
        | m + 2 => exact hf (m + 2) _ _ (by simpa using hm) (by simpa using hx)
    | trans _ _ ih1 ih2 =>
      intro Bs hl
      obtain ⟨Bs1, h1, h2, h3⟩ := ih1 Bs hl
      obtain ⟨Bs2, h4, h5, h6⟩ := ih2 Bs1 h2
      exact ⟨Bs2, h1.trans h4, h5, fun hf => h6 (h3 hf)⟩
  unfold Sep at h ⊢
  obtain ⟨Bs, hl, hc⟩ := h
  obtain ⟨Bs', h1, h2, h3⟩ := key hp Bs hl
  refine ⟨Bs', h2, hc.ext, ((h1.filterMap _).nodup_iff).1 hc.nd, fun g hg => hc.lo g ((h1.filterMap _).mem_iff.2 hg), fun x hx => hc.blk x (h1.mem_iff.2 hx), h3 hc.fct⟩

/-! ### Contracts of functions that change what their caller owns -/
def PostX {σ : Type} (C' : σ → World → Prop) (R : σ → Pr) : Ending → World → Prop := fun e w' => ∃ v, e = .returned v ∧ ∃ y, C' y w' ∧ (R y).ok v w'
def CTX (P : Program) (f : FuncId) (C : World → Prop) (ps : List Pr) {σ : Type} (C' : σ → World → Prop) (R : σ → Pr) : Prop :=
  ∀ (w : World) (vs : List Value), C w → okAll ps vs w → Calls P f vs.toArray w (PostX C' R)
section
variable {P : Program} {ops : Array Oper} {C : World → Prop} {Q : Exit → Act → World → Prop} {N : Nat} {M : List (Nat × Pr) → List Oper → Prop} {K : List (Nat × Pr)} {rest : List Oper} {d : Nat} {op : Op} {ty : TypeId} {pos : String} {af : Array Edge} {g : Option (Nat × Bool)}
theorem CTX_of {f : FuncId} {fn : Func} {c : Code} {ps : List Pr} {σ : Type} {C' : σ → World → Prop} {R : σ → Pr} (hf : P.funcs[f]? = some fn) (hb : fn.body = some c) (hN : fn.ntmps = N) (hps : Nat.ble ps.length N = true)
    (h : Hc P N (enumK 0 ps) C c (bodyPost P fn (PostX C' R))) : CTX P f C ps C' R := by
  intro w vs hC hk
  have hl := hk.length
  have hle := Nat.le_of_ble_eq_true hps
  refine calls_of_wp hf hb (h.out _ _ ⟨by simp; omega, rfl, fun t p hp => ?_, hC⟩)
  obtain ⟨v, _, hv, hok⟩ := enumK_spec ps vs 0 t p hk hp
  have hlt : t < vs.length := (List.getElem?_eq_some_iff.1 (by simpa using hv)).1
  exact ⟨v, by simp [Array.getElem?_append, hlt]; simpa [hlt] using hv, hok⟩
theorem RX0 {fn : Func} {σ : Type} {C' : σ → World → Prop} {R : σ → Pr} (hres : fn.results = #[]) (h : ∀ w, C w → ∃ y, C' y w ∧ (R y).ok (.tuple #[]) w) :
    Go_ N K C (bodyPost P fn (PostX C' R) .normal) := .of fun a w hst => ⟨hst.defers, _, results_none hres _ _ _, _, rfl, h w hst.cls⟩
theorem RX0r {fn : Func} {σ : Type} {C' : σ → World → Prop} {R : σ → Pr} (hres : fn.results = #[]) (h : ∀ w, C w → ∃ y, C' y w ∧ (R y).ok (.tuple #[]) w) :
    Go_ N K C (bodyPost P fn (PostX C' R) .ret) := .of fun a w hst => ⟨hst.defers, _, results_none hres _ _ _, _, rfl, h w hst.cls⟩
theorem RX1 {fn : Func} {σ : Type} {C' : σ → World → Prop} {R : σ → Pr} {t : Nat} {p : Pr} (hres : fn.results = #[.tmp t]) (ht : lookK K t = some p) (h : ∀ v w, C w → p.ok v w → ∃ y, C' y w ∧ (R y).ok v w) :
    Go_ N K C (bodyPost P fn (PostX C' R) .ret) := .of fun a w hst => ⟨hst.defers, _, results_tmp hres _ _ _, _, rfl, h _ w hst.cls (hst.get ht)⟩
theorem RX2 {fn : Func} {σ : Type} {C' : σ → World → Prop} {R : σ → Pr} {t1 t2 : Nat} {p1 p2 : Pr} (hres : fn.results = #[.tmp t1, .tmp t2]) (h1 : lookK K t1 = some p1) (h2 : lookK K t2 = some p2) (h : ∀ v1 v2 w, C w → p1.ok v1 w → p2.ok v2 w → ∃ y, C' y w ∧ (R y).ok (.tuple #[v1, v2]) w) :
    Go_ N K C (bodyPost P fn (PostX C' R) .ret) := .of fun a w hst => ⟨hst.defers, _, results_tmp2 hres _ _ _, _, rfl, h _ _ w hst.cls (hst.get h1) (hst.get h2)⟩
/-- The call. -/
theorem Sq_ctx {f : FuncId} {xs : Array Operand} {ats : Array TypeId} {ps : List Pr} {σ : Type} {C' : σ → World → Prop} {R : σ → Pr} (hct : CTX P f C ps C' R) (hN : Nat.blt d N = true) (hargs : knAll K xs.toList = some ps) (hB : callB P f = true)
    (h : ∀ y, Sq P ops N (C' y) Q ((d, R y) :: dropR K) rest) : Sq P ops N C Q K (⟨some d, .call { callee := .value (.func f), args := xs, argTypes := ats }, ty, pos, af, none⟩ :: rest) := by
  unfold Sq
  intro a w hst
  refine wpList_plain rfl fun K' hK' => ?_
  unfold Oper.wp
  rw [run_call hB rfl]
  simp only [Oper.upon]
  have hall := knAll_ok (ρ := a.eval) (w := w) xs.toList ps hargs fun x hx p hp => kn_val hst hp
  have hc := hct w _ hst.cls hall
  have e1 : (xs.toList.map a.eval).toArray = xs.map a.eval := by
    apply Array.ext'
    simp
  rw [e1] at hc
  refine hc.mono fun en w' ⟨v, he, y, hC', hR⟩ => ?_
  subst he
  have hsq := h y
  unfold Sq at hsq
  have hst1 := hst.turned (w' := w') (C' := fun _ => True) trivial
  have hst2 := hst1.step (d := d) (R := R y) (v := v) (fun _ _ _ _ => trivial) (Ext.refl _) (Nat.le_of_ble_eq_true hN) hR
  exact hK' _ _ (hsq _ _ (hst2.cls' hC'))
theorem Sq_ctx0 {f : FuncId} {xs : Array Operand} {ats : Array TypeId} {ps : List Pr} {σ : Type} {C' : σ → World → Prop} {R : σ → Pr} (hct : CTX P f C ps C' R) (hargs : knAll K xs.toList = some ps) (hB : callB P f = true)
    (h : ∀ y, Sq P ops N (C' y) Q (dropR K) rest) : Sq P ops N C Q K (⟨none, .call { callee := .value (.func f), args := xs, argTypes := ats }, ty, pos, af, none⟩ :: rest) := by
  unfold Sq
  intro a w hst
  refine wpList_plain rfl fun K' hK' => ?_
  have hr : (execOp a.eval (⟨none, .call { callee := .value (.func f), args := xs, argTypes := ats }, ty, pos, af, none⟩ : Oper)).run P w = .ok (.enter f (xs.map a.eval)) w := by
    have := run_call (P := P) (ρ := a.eval) (w := w) (d := 0) (ty := ty) (pos := pos) (af := af) (g := none) (ats := ats) (xs := xs) hB rfl
    simpa [execOp] using this
  unfold Oper.wp
  rw [hr]
  simp only [Oper.upon]
  have hall := knAll_ok (ρ := a.eval) (w := w) xs.toList ps hargs fun x hx p hp => kn_val hst hp
  have hc := hct w _ hst.cls hall
  have e1 : (xs.toList.map a.eval).toArray = xs.map a.eval := by
    apply Array.ext'
    simp
  rw [e1] at hc
  refine hc.mono fun en w' ⟨v, he, y, hC', hR⟩ => ?_
  subst he
  have hsq := h y
  unfold Sq at hsq
  have hst1 := hst.turned (w' := w') (C' := fun _ => True) trivial
  exact hK' _ _ (hsq _ _ (hst1.cls' hC'))
theorem H_ex {c : Code} {σ : Type} {D : σ → World → Prop} (h : ∀ y, Hc P N K (D y) c Q) : Hc P N K (fun w => ∃ y, D y w) c Q := .of fun a w hst => by
  obtain ⟨y, hy⟩ := hst.cls
  exact (h y).out a w (hst.cls' hy)

/-! ### Functions as values that are known -/
/-- In every world of the class, the function value compares two elements. -/
def FunC (P : Program) (C : World → Prop) (c : Value) {α : Type} (Lv : α → Value) (pr : α → Prop) (cf : α → α → Int) : Prop := ∃ f caps, c = .func (.func f) #[] caps ∧ callB P f = true ∧
  ∀ w, C w → ∀ a b, pr a → pr b → Calls P f (#[Lv a, Lv b] ++ caps) w fun e w' => e = .returned (.int .i64 (cf a b)) ∧ Ext w w'
theorem W_callC (hM : Stepper P ops C N M) {c : Value} {α : Type} {Lv : α → Value} {pr : α → Prop} {cf : α → α → Int} {x y z : Operand} {ats : Array TypeId} {a b : α} (hF : FunC P C c Lv pr cf) (ha : pr a) (hb : pr b) (hg : wantedK ops K g = some true) (hN : Nat.blt d N = true)
    (hx : kn K x = some (.inl c)) (hy : kn K y = some (.inl (Lv a))) (hz : kn K z = some (.inl (Lv b)))
    (h : M ((d, .inl (.int .i64 (cf a b))) :: K) rest) : M K (⟨some d, .call { callee := .value x, args := #[y, z], argTypes := ats }, ty, pos, af, g⟩ :: rest) :=
  W_gen hM (.inl (.int .i64 (cf a b))) hN hg (fun A w hC hk => by
    obtain ⟨f, caps, hv, hB, hcall⟩ := hF
    have hxv : A.eval x = .func (.func f) #[] caps := (hk x (by simp [Op.operands, Call.operands]) _ hx).trans hv
    have hyv : A.eval y = Lv a := hk y (by simp [Op.operands, Call.operands]) _ hy
    have hzv : A.eval z = Lv b := hk z (by simp [Op.operands, Call.operands]) _ hz
    have hr : (execOp A.eval ⟨some d, .call { callee := .value x, args := #[y, z], argTypes := ats }, ty, pos, af, g⟩).run P w = .ok (.enter f (#[Lv a, Lv b] ++ caps)) w := by
      unfold callB at hB
      cases hfn : P.funcs[f]? with
      | none => rw [hfn] at hB; cases hB
      | some fn =>
        rw [hfn] at hB
        simp only [Bool.and_eq_true, Bool.not_eq_true'] at hB
        obtain ⟨h1, h2⟩ := hB
        have h3 : ¬ fn.body = none := by cases hb : fn.body <;> simp_all
        have h4 : ¬ fn.name = "runtime.NumGoroutine" := by simpa using h2
        simp [execOp, resolve, hxv, hyv, hzv, Deferred.ofValue, invoke, callFunc, hfn, h4, h3]
    unfold gives
    rw [hr]
    exact (hcall w hC a b ha hb).mono fun e w' ⟨h1, h2⟩ => ⟨_, h1, h2, rfl⟩) h
theorem FunC.mono {C C' : World → Prop} {c : Value} {α : Type} {Lv : α → Value} {pr : α → Prop} {cf : α → α → Int} (h : FunC P C c Lv pr cf) (hC : ∀ w, C' w → C w) : FunC P C' c Lv pr cf := by
  obtain ⟨f, caps, h1, h2, h3⟩ := h
  exact ⟨f, caps, h1, h2, fun w hw => h3 w (hC w hw)⟩
/-- One that has no captures. -/
theorem FunC.of0 {C : World → Prop} {f : FuncId} {α : Type} {Lv : α → Value} {cf : α → α → Int} (hB : callB P f = true) (h : ∀ a b, CT P f [.inl (Lv a), .inl (Lv b)] (.inl (.int .i64 (cf a b)))) : FunC P C (.func (.func f) #[] #[]) Lv (fun _ => True) cf :=
  ⟨f, #[], rfl, hB, fun w _ a b _ _ => by
    have := (h a b).out w [Lv a, Lv b] ⟨rfl, rfl, trivial⟩
    exact this.mono fun e w' ⟨v, h1, h2, h3⟩ => ⟨by rw [h1, show v = _ from h3], h2⟩⟩

/-! ### Elements whose cells the value tells -/
structure Det {α : Type} (Φ : Phi α) (Lf : α → List Value) : Prop where
  c : ∀ z cs w, Φ.φ z cs w → cs = Lf z
  i : ∀ z w, Φ.φ z (Lf z) w
theorem Det.len {α : Type} {Φ : Phi α} {Lf : α → List Value} (h : Det Φ Lf) (z : α) : (Lf z).length = Φ.k := Φ.len _ _ default (h.i z default)
theorem Det.one {α : Type} {Φ : Phi α} {Lf : α → List Value} (h : Det Φ Lf) (z : α) : ∀ u ∈ Lf z, u.oneCell' = true := Φ.one _ _ default (h.i z default)
theorem hp_D {α : Type} {Ψ : Phi α} {Lf : α → List Value} (hd : Det Ψ Lf) {x z : α} : ∀ u w c, Pr.ok (.inl (.agg (Lf z).toArray)) u w → Ψ.φ x c w → ∃ vs : List Value, u.cells = vs.toArray ∧ vs.length = Ψ.k ∧ (∀ r ∈ vs, r.oneCell' = true) ∧ Ψ.φ z (putL c 0 vs) w := fun u w c hu hc => by
  obtain rfl : u = .agg (Lf z).toArray := hu
  refine ⟨Lf z, rfl, hd.len z, hd.one z, ?_⟩
  rw [putL_all (by rw [hd.len, Ψ.len _ _ _ hc])]
  exact hd.i z w
theorem Det.ok {α : Type} {Φ : Phi α} {Lf : α → List Value} (h : Det Φ Lf) {z : α} {w : World} : (uA Φ z).R (.agg (Lf z).toArray) w := ⟨Lf z, rfl, h.i z w⟩
variable {w0 : World} {L : List Osl}
theorem W_loadSD (m : Nat) (hM : Stepper P ops (Sep w0 L) N M) {α : Type} [Inhabited α] {e : TypeId} {Ψ : Phi α} {Lf : α → List Value} (hd : Det Ψ Lf) {xs : List α} {v : Value} {x : Operand} {t : TypeId} {ks : Nat} {i : Int} (hm : L[m]? = some (.sl α e Ψ xs v)) (hks : ks = Ψ.k) (hi : 0 ≤ i ∧ i < (xs.length : Int))
    (hB : aggB P t Ψ.k = true) (hg : wantedK ops K g = some true) (hN : Nat.blt d N = true) (hx : kn K x = some (.inl (ptrAt v i ks 0))) (h : M ((d, .inl (.agg (Lf (ix xs i)).toArray)) :: K) rest) : M K (⟨some d, .load t x, ty, pos, af, g⟩ :: rest) := by
  refine W_val hM hN hg (fun ρ w hc hk => ?_) h
  subst hks
  obtain ⟨b, c, h1, h2, h3⟩ := hc.cell hm (proj_self (Ψ := Ψ)) hi
  have hv : ρ x = ptrAt v i Ψ.k 0 := hk x (by simp [Op.operands]) _ hx
  rw [h1] at hv
  have e1 := hd.c _ _ _ h3
  subst e1
  have hr := run_loadCells_list (P := P) w ⟨b, i.toNat * Ψ.k + 0, none⟩ (Lf (ix xs i)) (fun j v hj => by rw [Addr.add_lit]; exact h2 j v hj)
  rw [hd.len] at hr
  simp only [Nat.add_zero] at hr hv
  simp [execOp, hv, Instr.loadAt, Instr.sureAddr, loadVar, isAgg_true hB, aggB_size hB, hr]
end
end Go.Proofs.Ytanlaggnhocjhaa

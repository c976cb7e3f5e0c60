/-
  One step of the walk for each kind of operation on memory that leaves what was there; calls.
-/
import Derived.Test.YtanlaggnhocjhaaGreatOp
import Derived.Laws.CopyOwn
namespace Go.Proofs.YtanlaggnhocjhaaGreat
set_option linter.unusedSimpArgs false
set_option linter.unusedVariables false
open Go.RowKit

def ix {α : Type} [Inhabited α] (xs : List α) (i : Int) : α := xs.getD i.toNat default

def knAll (K : List (Nat × Pr)) : List Operand → Option (List Pr)
  | [] => some []
  | x :: xs => match kn K x, knAll K xs with
    | some p, some ps => some (p :: ps)
    | _, _ => none
theorem knAll_ok {K : List (Nat × Pr)} {ρ : Operand → Value} {w : World} : ∀ (xs : List Operand) (ps : List Pr), knAll K xs = some ps → (∀ x ∈ xs, ∀ p, kn K x = some p → p.ok (ρ x) w) → okAll ps (xs.map ρ) w
  | [], ps, h, _ => by simp only [knAll, Option.some.injEq] at h; subst h; trivial
  | x :: xs, ps, h, hk => by
    simp only [knAll] at h
    split at h
    · rename_i p ps' h1 h2
      simp only [Option.some.injEq] at h
      subst h
      exact ⟨hk x (by simp) p h1, knAll_ok xs ps' h2 fun y hy => hk y (by simp [hy])⟩
    · cases h

/-- A function's contract: from what is known of the arguments to what is known of the result; nothing that was there turns. -/
def CT (P : Program) (f : FuncId) (ps : List Pr) (R : Pr) : Prop :=
  ∀ (w : World) (vs : List Value), okAll ps vs w → Calls P f vs.toArray w fun e w' => ∃ v, e = .returned v ∧ Ext w w' ∧ R.ok v w'

def callB (P : Program) (f : FuncId) : Bool := match P.funcs[f]? with
  | some fn => fn.body.isSome && !(fn.name == "runtime.NumGoroutine")
  | none => false
def elemB (P : Program) (t : TypeId) (k : Nat) : Bool := match P.underlying t with
  | some (.slice e) => match P.info? e with | some i => Nat.beq i.size k | none => false
  | _ => false
def sliceB (P : Program) (t : TypeId) : Bool := match P.underlying t with | some (.slice _) => true | _ => false
def stringB (P : Program) (t : TypeId) : Bool := match P.underlying t with | some .string => true | _ => false
def scalarB (P : Program) (t : TypeId) : Bool := match P.underlying t with | some (.struct _) => false | some (.array _ _) => false | some _ => true | none => false
def aggB (P : Program) (t : TypeId) (k : Nat) : Bool := (match P.underlying t with | some (.struct _) => true | some (.array _ _) => true | _ => false) && (match P.info? t with | some i => Nat.beq i.size k | none => false)
def fieldB (P : Program) (t : TypeId) (i off : Nat) : Bool := match P.underlying t with
  | some (.struct fs) => match fs[i]? with
    | some f => Nat.beq f.offset off && (match P.info? f.type with | some i => !Nat.beq i.size 0 | none => false)
    | none => false
  | _ => false

theorem sizeOf_run {P : Program} {e : TypeId} {i : TypeInfo} (h : P.info? e = some i) (w : World) : (sizeOf e).run P w = .ok i.size w := by
  simp [sizeOf, typeInfo, h]
theorem elemB_spec {P : Program} {t : TypeId} {k : Nat} (h : elemB P t k = true) : ∃ e i, P.underlying t = some (.slice e) ∧ P.info? e = some i ∧ i.size = k := by
  unfold elemB at h
  split at h
  · rename_i e he
    split at h
    · rename_i i hi
      exact ⟨e, i, he, hi, Nat.eq_of_beq_eq_true h⟩
    · cases h
  · cases h
theorem isAgg_false {P : Program} {t : TypeId} (h : scalarB P t = true) (w : World) : (isAgg t).run P w = .ok false w := by
  unfold scalarB at h
  simp only [isAgg, Sem.run_bind]
  cases hu : P.underlying t with
  | none => rw [hu] at h; cases h
  | some d =>
    rw [hu] at h
    rw [run_underlying hu]
    cases d <;> first | (simp at h; done) | rfl
theorem isAgg_true {P : Program} {t : TypeId} {k : Nat} (h : aggB P t k = true) (w : World) : (isAgg t).run P w = .ok true w := by
  unfold aggB at h
  simp only [isAgg, Sem.run_bind]
  cases hu : P.underlying t with
  | none => rw [hu] at h; simp at h
  | some d =>
    rw [hu] at h
    rw [run_underlying hu]
    cases d <;> first | (simp at h; done) | rfl
theorem aggB_size {P : Program} {t : TypeId} {k : Nat} (h : aggB P t k = true) (w : World) : (sizeOf t).run P w = .ok k w := by
  unfold aggB at h
  simp only [Bool.and_eq_true] at h
  have h2 := h.2
  split at h2
  · rename_i i hi
    rw [sizeOf_run hi, Nat.eq_of_beq_eq_true h2]
  · cases h2

/-- A part of a datum's cells, at an offset. -/
def Proj {α β : Type} (Φ : Phi α) (off : Nat) (Ψ : Phi β) (g : α → β) : Prop :=
  ∀ x cs w, Φ.φ x cs w → ∃ c, (∀ j u, c[j]? = some u → cs[off + j]? = some u) ∧ Ψ.φ (g x) c w
theorem Proj.head {α β : Type} (f : α → β) (Φ : Phi β) (Ψ : Phi α) : Proj (pCat f Φ Ψ) 0 Φ f := fun x cs w ⟨c1, c2, h, h1, _⟩ =>
  ⟨c1, fun j u hu => by rw [h, Nat.zero_add, List.getElem?_append_left (List.getElem?_eq_some_iff.1 hu).1]; exact hu, h1⟩
theorem Proj.tail {α β γ : Type} (f : α → β) (Φ : Phi β) {Ψ : Phi α} {off : Nat} {Θ : Phi γ} {g : α → γ} (hp : Proj Ψ off Θ g) : Proj (pCat f Φ Ψ) (Φ.k + off) Θ g := fun x cs w ⟨c1, c2, h, h1, h2⟩ => by
  obtain ⟨c, hc, hφ⟩ := hp x c2 w h2
  have hl := Φ.len _ _ _ h1
  exact ⟨c, fun j u hu => by rw [h, ← hl, Nat.add_assoc, List.getElem?_append_right (by omega)]; rw [show c1.length + (off + j) - c1.length = off + j by omega]; exact hc j u hu, hφ⟩

section
variable {P : Program} {ops : Array Oper} {C : World → Prop} {N : Nat} {M : List (Nat × Pr) → List Oper → Prop} {K : List (Nat × Pr)} {rest : List Oper} {d : Nat} {op : Op} {ty : TypeId} {pos : String} {af : Array Edge} {g : Option (Nat × Bool)}

theorem run_call {ρ : Operand → Value} {w : World} {f : FuncId} {xs : Array Operand} {ats : Array TypeId} (hB : callB P f = true) (hf : ρ (.func f) = .func (.func f) #[] #[]) :
    (execOp ρ ⟨some d, .call { callee := .value (.func f), args := xs, argTypes := ats }, ty, pos, af, g⟩).run P w = .ok (.enter f (xs.map ρ)) w := by
  unfold callB at hB
  cases hfn : P.funcs[f]? with
  | none => rw [hfn] at hB; cases hB
  | some fn =>
    rw [hfn] at hB
    simp only [Bool.and_eq_true, Bool.not_eq_true'] at hB
    obtain ⟨h1, h2⟩ := hB
    have h3 : ¬ fn.body = none := by cases hb : fn.body <;> simp_all
    have h4 : ¬ fn.name = "runtime.NumGoroutine" := by simpa using h2
    simp [execOp, resolve, hf, Deferred.ofValue, invoke, callFunc, hfn, h4, h3]

theorem W_call (hM : Stepper P ops C N M) {f : FuncId} {xs : Array Operand} {ats : Array TypeId} {ps : List Pr} {R : Pr} (hg : wantedK ops K g = some true) (hN : Nat.blt d N = true) (hargs : knAll K xs.toList = some ps) (hB : callB P f = true)
    (hc : ∀ (w : World) (vs : List Value), C w → okAll ps vs w → Calls P f vs.toArray w fun e w' => ∃ v, e = .returned v ∧ Ext w w' ∧ R.ok v w')
    (h : M ((d, R) :: K) rest) : M K (⟨some d, .call { callee := .value (.func f), args := xs, argTypes := ats }, ty, pos, af, g⟩ :: rest) :=
  W_gen hM R hN hg (fun a w hC hk => by
    have hf : a.eval (.func f) = .func (.func f) #[] #[] := rfl
    unfold gives
    rw [run_call hB hf]
    have hall := knAll_ok (ρ := a.eval) (w := w) xs.toList ps hargs fun x hx p hp => hk x (by simp only [Op.operands, Call.operands]; exact Array.mem_append.2 (.inr (Array.mem_toList_iff.1 hx))) p hp
    have := hc w (xs.toList.map a.eval) hC hall
    have e : (xs.toList.map a.eval).toArray = xs.map a.eval := by
      apply Array.ext'
      simp
    rw [e] at this
    exact this) h
/-- .. by a contract. -/
theorem W_ct (hM : Stepper P ops C N M) {f : FuncId} {xs : Array Operand} {ats : Array TypeId} {ps : List Pr} {R : Pr} (hct : CT P f ps R) (hg : wantedK ops K g = some true) (hN : Nat.blt d N = true) (hargs : knAll K xs.toList = some ps) (hB : callB P f = true)
    (h : M ((d, R) :: K) rest) : M K (⟨some d, .call { callee := .value (.func f), args := xs, argTypes := ats }, ty, pos, af, g⟩ :: rest) :=
  W_call hM hg hN hargs hB (fun w vs _ hk => hct w vs hk) h

theorem W_extract (hM : Stepper P ops C N M) {x : Operand} {i : Nat} {ps : List Pr} {p : Pr} (hg : wantedK ops K g = some true) (hN : Nat.blt d N = true) (hx : kn K x = some (.inr (uT ps))) (hp : ps[i]? = some p)
    (h : M ((d, p) :: K) rest) : M K (⟨some d, .extract x i, ty, pos, af, g⟩ :: rest) :=
  W_det hM p hN hg (fun ρ w _ hk => by
    obtain ⟨vs, hv, hall⟩ := hk x (by simp [Op.operands]) _ hx
    obtain ⟨v, hvi, hok⟩ := hall.get hp
    have hlt : i < vs.length := (List.getElem?_eq_some_iff.1 hvi).1
    have hv' : vs[i] = v := by rw [List.getElem?_eq_getElem hlt] at hvi; exact Option.some.inj hvi
    refine ⟨v, ?_, hok⟩
    simp [execOp, hv, Instr.extract, hlt, hv']) h

theorem W_len (hM : Stepper P ops C N M) {α : Type} {e : Option TypeId} {Φ : Phi α} {xs : List α} {x : Operand} {t : TypeId} (hB : sliceB P t = true) (hg : wantedK ops K g = some true) (hN : Nat.blt d N = true) (hx : kn K x = some (.inr (uS e Φ xs)))
    (h : M ((d, .inl (.int .i64 xs.length)) :: K) rest) : M K (⟨some d, .call { callee := .builtin .len, args := #[x], argTypes := #[t] }, ty, pos, af, g⟩ :: rest) :=
  W_val hM hN hg (fun ρ w _ hk => by
    obtain ⟨A, n, c, hv, hn, _⟩ := hk x (by simp [Op.operands, Call.operands]) _ hx
    subst hn
    unfold sliceB at hB
    cases hu : P.underlying t with
    | none => rw [hu] at hB; cases hB
    | some dd =>
      rw [hu] at hB
      cases dd <;> first | (simp at hB; done) | skip
      simp [execOp, resolve, invoke, builtin, Builtin.len_, run_underlying hu, hv, goInt]) h

theorem W_lenStr (hM : Stepper P ops C N M) {s : ByteArray} {x : Operand} {t : TypeId} (hB : stringB P t = true) (hg : wantedK ops K g = some true) (hN : Nat.blt d N = true) (hx : kn K x = some (.inl (.string s)))
    (h : M ((d, .inl (.int .i64 s.size)) :: K) rest) : M K (⟨some d, .call { callee := .builtin .len, args := #[x], argTypes := #[t] }, ty, pos, af, g⟩ :: rest) :=
  W_val hM hN hg (fun ρ w _ hk => by
    have hv : ρ x = .string s := hk x (by simp [Op.operands, Call.operands]) _ hx
    unfold stringB at hB
    cases hu : P.underlying t with
    | none => rw [hu] at hB; cases hB
    | some dd =>
      rw [hu] at hB
      cases dd <;> first | (simp at hB; done) | skip
      simp [execOp, resolve, invoke, builtin, Builtin.len_, run_underlying hu, hv, goInt]) h

theorem W_index (hM : Stepper P ops C N M) {α : Type} [Inhabited α] {e : Option TypeId} {Φ : Phi α} {xs : List α} {x y : Operand} {t : TypeId} {k : IntKind} {i : Int} (hB : elemB P t Φ.k = true) (hg : wantedK ops K g = some true) (hN : Nat.blt d N = true)
    (hx : kn K x = some (.inr (uS e Φ xs))) (hy : kn K y = some (.inl (.int k i))) (hi : 0 ≤ i ∧ i < (xs.length : Int))
    (h : M ((d, .inr (uP Φ (ix xs i))) :: K) rest) : M K (⟨some d, .indexAddr t x y, ty, pos, af, g⟩ :: rest) :=
  W_det hM _ hN hg (fun ρ w _ hk => by
    obtain ⟨A, n, c, hv, hn, hnc, _, hall⟩ := hk x (by simp [Op.operands]) _ hx
    have hyv : ρ y = .int k i := hk y (by simp [Op.operands]) _ hy
    obtain ⟨te, inf, hu, hinf, hsz⟩ := elemB_spec hB
    subst hn
    have hlt : i.toNat < xs.length := by omega
    have hget : xs[i.toNat]? = some (ix xs i) := by simp [ix, hlt]
    obtain ⟨b, off, cs, hA, hcell, hφ, _⟩ := hall _ _ hget
    subst hA
    refine ⟨.pointer (some ⟨b, off + i.toNat * Φ.k, none⟩), ?_, b, off + i.toNat * Φ.k, cs, rfl, fun j u hu => ?_, hφ⟩
    · simp [execOp, hv, hyv, Instr.indexAt, asIntOf, run_underlying hu, hi, sizeOf_run hinf, hsz, Addr.add_lit]
    · rw [Nat.add_assoc]
      exact hcell j u hu) h

theorem W_fieldG (hM : Stepper P ops C N M) {α β : Type} {Φ : Phi α} {Ψ : Phi β} {z : α} {q : α → β} {x : Operand} {t : TypeId} {i off : Nat} (hp : Proj Φ off Ψ q) (hB : fieldB P t i off = true) (hg : wantedK ops K g = some true) (hN : Nat.blt d N = true)
    (hx : kn K x = some (.inr (uP Φ z))) (h : M ((d, .inr (uP Ψ (q z))) :: K) rest) : M K (⟨some d, .fieldAddr t x i, ty, pos, af, g⟩ :: rest) :=
  W_det hM _ hN hg (fun ρ w _ hk => by
    obtain ⟨b, o, cs, hv, hcell, hφ⟩ := hk x (by simp [Op.operands]) _ hx
    obtain ⟨c, hc, hφ'⟩ := hp _ _ _ hφ
    unfold fieldB at hB
    split at hB
    · rename_i fs hfs
      split at hB
      · rename_i f hf
        simp only [Bool.and_eq_true] at hB
        obtain ⟨h1, h2⟩ := hB
        have hoff := Nat.eq_of_beq_eq_true h1
        split at h2
        · rename_i inf hinf
          have hne : inf.size ≠ 0 := by
            intro e
            rw [e] at h2
            simp at h2
          refine ⟨.pointer (some ⟨b, o + off, none⟩), ?_, b, o + off, c, rfl, fun j u hu => ?_, hφ'⟩
          · simp [execOp, hv, Instr.fieldAt, run_underlying hfs, hf, Instr.sureAddr, fieldPlace, sizeOf_run hinf, hne, Addr.add_lit, hoff]
          · rw [Nat.add_assoc]
            exact hcell _ _ (hc j u hu)
        · cases h2
      · cases hB
    · cases hB) h

theorem run_load1 {ρ : Operand → Value} {x : Operand} {w : World} {t : TypeId} {a : Addr} {v : Value} (hB : scalarB P t = true) (hx : ρ x = .pointer (some a)) (hc : w.cell? a = some v) :
    (execOp ρ ⟨some d, .load t x, ty, pos, af, g⟩).run P w = .ok (.value v) w := by
  simp [execOp, hx, Instr.loadAt, Instr.sureAddr, loadVar, isAgg_false hB, hc]
theorem IsP.one {α : Type} {Φ : Phi α} {x : α} {v u : Value} {w : World} (h : IsP Φ x v w) (hcs : ∀ cs w, Φ.φ x cs w → cs = [u]) : ∃ a, v = .pointer (some a) ∧ w.cell? a = some u := by
  obtain ⟨b, o, cs, hv, hcell, hφ⟩ := h
  have := hcs _ _ hφ
  subst this
  exact ⟨_, hv, by have := hcell 0 u rfl; simpa using this⟩
theorem W_loadI (hM : Stepper P ops C N M) {n : Int} {x : Operand} {t : TypeId} (hB : scalarB P t = true) (hg : wantedK ops K g = some true) (hN : Nat.blt d N = true) (hx : kn K x = some (.inr (uP pI n)))
    (h : M ((d, .inl (.int .i64 n)) :: K) rest) : M K (⟨some d, .load t x, ty, pos, af, g⟩ :: rest) :=
  W_val hM hN hg (fun ρ w _ hk => by
    obtain ⟨a, hv, hc⟩ := IsP.one (hk x (by simp [Op.operands]) _ hx : IsP pI n _ w) (fun cs w h => h)
    exact run_load1 hB hv hc) h
theorem W_loadStr (hM : Stepper P ops C N M) {n : ByteArray} {x : Operand} {t : TypeId} (hB : scalarB P t = true) (hg : wantedK ops K g = some true) (hN : Nat.blt d N = true) (hx : kn K x = some (.inr (uP pStr n)))
    (h : M ((d, .inl (.string n)) :: K) rest) : M K (⟨some d, .load t x, ty, pos, af, g⟩ :: rest) :=
  W_val hM hN hg (fun ρ w _ hk => by
    obtain ⟨a, hv, hc⟩ := IsP.one (hk x (by simp [Op.operands]) _ hx : IsP pStr n _ w) (fun cs w h => h)
    exact run_load1 hB hv hc) h
theorem W_loadS (hM : Stepper P ops C N M) {α : Type} {e : Option TypeId} {Φ : Phi α} {xs : List α} {x : Operand} {t : TypeId} (hB : scalarB P t = true) (hg : wantedK ops K g = some true) (hN : Nat.blt d N = true) (hx : kn K x = some (.inr (uP (pS e Φ) xs)))
    (h : M ((d, .inr (uS e Φ xs)) :: K) rest) : M K (⟨some d, .load t x, ty, pos, af, g⟩ :: rest) :=
  W_det hM _ hN hg (fun ρ w _ hk => by
    obtain ⟨b, o, cs, hv, hcell, v, hcs, hs⟩ := hk x (by simp [Op.operands]) _ hx
    subst hcs
    exact ⟨v, run_load1 hB hv (by have := hcell 0 v rfl; simpa using this), hs⟩) h
theorem W_loadA (hM : Stepper P ops C N M) {α : Type} {Φ : Phi α} {z : α} {x : Operand} {t : TypeId} (hB : aggB P t Φ.k = true) (hg : wantedK ops K g = some true) (hN : Nat.blt d N = true) (hx : kn K x = some (.inr (uP Φ z)))
    (h : M ((d, .inr (uA Φ z)) :: K) rest) : M K (⟨some d, .load t x, ty, pos, af, g⟩ :: rest) :=
  W_det hM _ hN hg (fun ρ w _ hk => by
    obtain ⟨b, o, cs, hv, hcell, hφ⟩ := hk x (by simp [Op.operands]) _ hx
    refine ⟨.agg cs.toArray, ?_, cs, rfl, hφ⟩
    have hr := run_loadCells_list (P := P) w ⟨b, o, none⟩ cs (fun j v hj => by rw [Addr.add_lit]; exact hcell j v hj)
    rw [Φ.len _ _ _ hφ] at hr
    simp [execOp, hv, Instr.loadAt, Instr.sureAddr, loadVar, isAgg_true hB, aggB_size hB, hr]) h

theorem Ext.trans_of_setRow {w w1 : World} (h : Ext w w1) (cs : List Value) : Ext w (w1.setRow w.heap.size cs.toArray) := below_setRow h (Nat.le_refl _) _
theorem new_ext (w : World) (o : Obj) : Ext w (w.alloc o) := (Ext.refl w).alloc o
theorem W_boxA (hM : Stepper P ops C N M) {α : Type} {Φ : Phi α} {z : α} {x : Operand} {t : TypeId} (hg : wantedK ops K g = some true) (hN : Nat.blt d N = true) (hx : kn K x = some (.inr (uA Φ z)))
    (h : M ((d, .inr (uP Φ z)) :: K) rest) : M K (⟨some d, .box t x, ty, pos, af, g⟩ :: rest) :=
  W_gen hM _ hN hg (fun a w _ hk => by
    obtain ⟨cs, hv, hφ⟩ := hk x (by simp [Op.operands]) _ hx
    have hr : ∀ ρ : Operand → Value, ρ x = .agg cs.toArray → (execOp ρ ⟨some d, .box t x, ty, pos, af, g⟩).run P w = .ok (.value (.pointer (some ⟨w.heap.size, 0, none⟩))) (w.alloc (.cells cs.toArray t)) := fun ρ hv => by
      simp [execOp, hv, go_sem, Value.cells]
    unfold gives
    rw [hr _ hv]
    refine ⟨new_ext _ _, w.heap.size, 0, cs, rfl, fun j u hu => ?_, Φ.up _ _ _ _ (new_ext _ _) hφ⟩
    rw [Nat.zero_add]
    have := cell_of_row (w.alloc (.cells cs.toArray t)) w.heap.size j cs.toArray t (0, 0) (heap_alloc_new w _)
    rw [this]
    simpa using hu) h


/-! ### A new variable, then a store of the whole of it -/
def delK (d : Nat) : List (Nat × Pr) → List (Nat × Pr)
  | [] => []
  | (t, p) :: K => match Nat.beq t d with | true => delK d K | false => (t, p) :: delK d K
theorem lookK_del (d : Nat) : ∀ (K : List (Nat × Pr)) (t : Nat), lookK (delK d K) t = if t = d then none else lookK K t
  | [], t => by simp [delK, lookK]
  | (s, p) :: K, t => by
    simp only [delK]
    cases hb : Nat.beq s d with
    | true =>
      have e := Nat.eq_of_beq_eq_true hb
      subst e
      simp only
      rw [lookK_del s K t]
      by_cases h : t = s
      · simp [h]
      · rw [if_neg h, if_neg h, lookK_ne _ (fun e => h e.symm)]
    | false =>
      have hne : s ≠ d := fun e => by subst e; rw [Nat.beq_refl] at hb; cases hb
      simp only
      by_cases h : s = t
      · subst h
        rw [lookK_same, lookK_same, if_neg hne]
      · rw [lookK_ne _ h, lookK_ne _ h, lookK_del d K t]

/-- A new variable of type t lies behind the world; the slot d points to it. -/
def Pend (P : Program) (ops : Array Oper) (N : Nat) (C : World → Prop) (Q : Exit → Act → World → Prop) (d : Nat) (t : TypeId) (z : Array Value) (K : List (Nat × Pr)) (l : List Oper) : Prop :=
  ∀ (a : Act) (w : World), St N K C a w → a.tmps[d]? = some (.pointer (some ⟨w.heap.size, 0, none⟩)) → lookK K d = none → wpList P ops Q l a (w.alloc (.cells z t))

def allocB (P : Program) (t : TypeId) (n : Nat) : Bool := match P.info? t with
  | some i => (match i.zero with | some z => Nat.beq z.cells.size n | none => false) && Nat.beq i.size n
  | none => false
def zeroOf (P : Program) (t : TypeId) : Array Value := match P.info? t with
  | some i => (match i.zero with | some z => z.cells | none => #[])
  | none => #[]
theorem run_alloc {ρ : Operand → Value} {w : World} {t : TypeId} {n : Nat} (hB : allocB P t n = true) :
    (execOp ρ ⟨some d, .alloc t, ty, pos, af, g⟩).run P w = .ok (.value (.pointer (some ⟨w.heap.size, 0, none⟩))) (w.alloc (.cells (zeroOf P t) t)) := by
  unfold allocB at hB
  cases hi : P.info? t with
  | none => rw [hi] at hB; cases hB
  | some i =>
    rw [hi] at hB
    simp only [Bool.and_eq_true] at hB
    cases hz : i.zero with
    | none => rw [hz] at hB; simp at hB
    | some z =>
      have h1 : (Instr.alloc t true (.tuple #[])).run P w = .ok (.pointer (some ⟨w.heap.size, 0, none⟩)) (w.alloc (.cells z.cells t)) := by
        simp [Instr.alloc, typeInfo, zeroValue, hi, hz, newVar, newRow, newObj]
        rfl
      simp only [execOp, Sem.run_bind, h1, Result.andThen_ok, Sem.run_pure, zeroOf, hi, hz]
theorem zeroOf_size {t : TypeId} {n : Nat} (hB : allocB P t n = true) : (zeroOf P t).size = n := by
  unfold allocB at hB
  unfold zeroOf
  cases hi : P.info? t with
  | none => rw [hi] at hB; cases hB
  | some i =>
    rw [hi] at hB
    simp only [Bool.and_eq_true] at hB
    cases hz : i.zero with
    | none => rw [hz] at hB; simp at hB
    | some z =>
      rw [hz] at hB
      simp only [hz]
      exact Nat.eq_of_beq_eq_true hB.1
theorem allocB_size {t : TypeId} {n : Nat} (hB : allocB P t n = true) : (P.info? t).map (·.size) = some n := by
  unfold allocB at hB
  cases hi : P.info? t with
  | none => rw [hi] at hB; cases hB
  | some i =>
    rw [hi] at hB
    simp only [Bool.and_eq_true] at hB
    simp [Nat.eq_of_beq_eq_true hB.2]

theorem Sq_alloc {Q : Exit → Act → World → Prop} {t : TypeId} (hB : allocB P t (zeroOf P t).size = true) (hC : UpC C) (hN : Nat.blt d N = true) (h : Pend P ops N C Q d t (zeroOf P t) (delK d K) rest) :
    Sq P ops N C Q K (⟨some d, .alloc t, ty, pos, af, none⟩ :: rest) := by
  unfold Sq
  intro a w hst
  have hd : d < a.tmps.size := by rw [hst.size]; exact Nat.le_of_ble_eq_true hN
  refine wpList_plain rfl fun K' hK' => ?_
  unfold Oper.wp
  rw [run_alloc hB]
  simp only [Oper.upon]
  refine hK' _ _ (h _ _ ⟨by simpa [Act.put] using hst.size, hst.defers, fun s p hp => ?_, hst.cls⟩ (by simp [Act.put, hd]) ?_)
  · rw [lookK_del] at hp
    by_cases e : s = d
    · rw [if_pos e] at hp; cases hp
    · rw [if_neg e] at hp
      exact (hst.slots s p hp).step (Ext.refl _) (fun e' => e e'.symm)
  · rw [lookK_del, if_pos rfl]

theorem Pend_storeA {Q : Exit → Act → World → Prop} {α : Type} {Φ : Phi α} {u : α} {t : TypeId} {x : Operand} (hB : allocB P t Φ.k = true) (hC : UpC C) (hx : kn K x = some (.inr (uA Φ u))) (hN : Nat.blt d N = true)
    (h : Sq P ops N C Q ((d, .inr (uP Φ u)) :: K) rest) : Pend P ops N C Q d t (zeroOf P t) K (⟨none, .store t (.tmp d) x, ty, pos, af, none⟩ :: rest) := by
  intro a w hst hd hK
  unfold Sq at h
  have hok : IsA Φ u (a.eval x) w := by
    cases x with
    | tmp s =>
      obtain ⟨v, hv, hk⟩ := hst.slots s _ hx
      have : a.eval (.tmp s) = v := by simp [Act.eval, hv]
      rw [this]
      exact hk
    | const v => simp [kn] at hx
    | global n => simp [kn] at hx
    | func f => simp [kn] at hx
  obtain ⟨cs, hv, hφ⟩ := hok
  have hlen := Φ.len _ _ _ hφ
  have hz := zeroOf_size hB
  have he : a.eval (.tmp d) = .pointer (some ⟨w.heap.size, 0, none⟩) := by simp [Act.eval, hd]
  have hg : (w.alloc (.cells (zeroOf P t) t)).heap[w.heap.size]? = some (.cells (zeroOf P t) t (0, 0)) := heap_alloc_new w _
  have hrun := run_storeVar_row (P := P) (w.alloc (.cells (zeroOf P t) t)) w.heap.size t t (zeroOf P t) cs.toArray hg (by rw [allocB_size hB]; simp [hlen]) (by rw [hz]; simp [hlen])
    (Array.all_eq_true_iff_forall_mem.2 fun u hu => Φ.one _ _ _ hφ u (by simpa using hu))
  refine wpList_plain rfl fun K' hK' => ?_
  unfold Oper.wp
  have hr2 : (execOp a.eval ⟨none, .store t (.tmp d) x, ty, pos, af, none⟩).run P (w.alloc (.cells (zeroOf P t) t)) = .ok .skip ((w.alloc (.cells (zeroOf P t) t)).setRow w.heap.size cs.toArray) := by
    simp only [execOp, Instr.storeAt, he, hv, Instr.sureAddr, Sem.run_bind, Sem.run_pure, Result.andThen_ok, hrun]
  rw [hr2]
  simp only [Oper.upon]
  have hext : Ext w ((w.alloc (.cells (zeroOf P t) t)).setRow w.heap.size cs.toArray) :=
    ((new_ext w _).trans_of_setRow cs)
  have hg2 := setRow_heap (w.alloc (.cells (zeroOf P t) t)) w.heap.size (zeroOf P t) cs.toArray t (0, 0) hg
  refine hK' _ _ (h _ _ ⟨by simpa [Act.put] using hst.size, hst.defers, fun s q hq => ?_, hC _ _ hst.cls hext⟩)
  by_cases e : d = s
  · subst e
    rw [lookK_same] at hq
    injection hq with hq
    subst hq
    refine ⟨_, hd, w.heap.size, 0, cs, rfl, fun j u hu => ?_, Φ.up _ _ _ _ hext hφ⟩
    rw [Nat.zero_add, cell_of_row _ w.heap.size j cs.toArray t (0, 0) hg2]
    simpa using hu
  · rw [lookK_ne _ e] at hq
    obtain ⟨v', hv', hk'⟩ := hst.slots s q hq
    exact ⟨v', hv', Pr.up_ok hext hk'⟩

/-! ### The end of a body -/
def Post (w0 : World) (R : Pr) : Ending → World → Prop := fun e w' => ∃ v, e = .returned v ∧ Ext w0 w' ∧ R.ok v w'
theorem St.get {a : Act} {w : World} {t : Nat} {p : Pr} (h : St N K C a w) (ht : lookK K t = some p) : p.ok (a.tmps.getD t undef) w := by
  obtain ⟨v, hv, hp⟩ := h.slots t p ht
  have : a.tmps.getD t undef = v := by simp [hv]
  rw [this]
  exact hp
theorem R1 {fn : Func} {w0 : World} {R p : Pr} {t : Nat} (hres : fn.results = #[.tmp t]) (hC : ∀ w, C w → Ext w0 w) (ht : lookK K t = some p) (hp : ∀ v w, C w → p.ok v w → R.ok v w) :
    Go_ N K C (bodyPost P fn (Post w0 R) .ret) := .of fun a w hst => ⟨hst.defers, _, results_tmp hres _ _ _, _, rfl, hC _ hst.cls, hp _ _ hst.cls (hst.get ht)⟩
theorem R2 {fn : Func} {w0 : World} {p1 p2 q1 q2 : Pr} {t1 t2 : Nat} (hres : fn.results = #[.tmp t1, .tmp t2]) (hC : ∀ w, C w → Ext w0 w) (h1 : lookK K t1 = some p1) (h2 : lookK K t2 = some p2)
    (hp1 : ∀ v w, C w → p1.ok v w → q1.ok v w) (hp2 : ∀ v w, C w → p2.ok v w → q2.ok v w) :
    Go_ N K C (bodyPost P fn (Post w0 (.inr (uT [q1, q2]))) .ret) := .of fun a w hst => ⟨hst.defers, _, results_tmp2 hres _ _ _, _, rfl, hC _ hst.cls, [_, _], rfl, hp1 _ _ hst.cls (hst.get h1), hp2 _ _ hst.cls (hst.get h2), trivial⟩
theorem R3 {fn : Func} {w0 : World} {p1 p2 p3 q1 q2 q3 : Pr} {t1 t2 t3 : Nat} (hres : fn.results = #[.tmp t1, .tmp t2, .tmp t3]) (hC : ∀ w, C w → Ext w0 w) (h1 : lookK K t1 = some p1) (h2 : lookK K t2 = some p2) (h3 : lookK K t3 = some p3)
    (hp1 : ∀ v w, C w → p1.ok v w → q1.ok v w) (hp2 : ∀ v w, C w → p2.ok v w → q2.ok v w) (hp3 : ∀ v w, C w → p3.ok v w → q3.ok v w) :
    Go_ N K C (bodyPost P fn (Post w0 (.inr (uT [q1, q2, q3]))) .ret) := .of fun a w hst =>
  ⟨hst.defers, _, results_tmp3 hres _ _ _, _, rfl, hC _ hst.cls, [_, _, _], rfl, hp1 _ _ hst.cls (hst.get h1), hp2 _ _ hst.cls (hst.get h2), hp3 _ _ hst.cls (hst.get h3), trivial⟩

theorem R1v {fn : Func} {w0 : World} {u u' : Value} {t : Nat} (hres : fn.results = #[.tmp t]) (hC : ∀ w, C w → Ext w0 w) (ht : lookK K t = some (.inl u)) (hp : u = u') :
    Go_ N K C (bodyPost P fn (Post w0 (.inl u')) .ret) := R1 hres hC ht (fun v w _ h => by subst hp; exact h)
def enumK : Nat → List Pr → List (Nat × Pr)
  | _, [] => []
  | i, p :: ps => (i, p) :: enumK (i + 1) ps
theorem enumK_spec {w : World} : ∀ (ps : List Pr) (vs : List Value) (i t : Nat) (p : Pr), okAll ps vs w → lookK (enumK i ps) t = some p → ∃ v, i ≤ t ∧ vs[t - i]? = some v ∧ p.ok v w
  | [], _, _, _, _, _, h => by cases h
  | q :: ps, [], _, _, _, hk, _ => by simp [okAll] at hk
  | q :: ps, v :: vs, i, t, p, hk, h => by
    simp only [enumK] at h
    by_cases e : i = t
    · subst e
      rw [lookK_same] at h
      injection h with h
      subst h
      exact ⟨v, Nat.le_refl _, by simp, hk.1⟩
    · rw [lookK_ne _ e] at h
      obtain ⟨u, h1, h2, h3⟩ := enumK_spec ps vs (i + 1) t p hk.2 h
      refine ⟨u, by omega, ?_, h3⟩
      rw [show t - i = (t - (i + 1)) + 1 by omega]
      simpa using h2
theorem okAll.length {ps : List Pr} {vs : List Value} {w : World} (h : okAll ps vs w) : vs.length = ps.length := by
  induction ps generalizing vs with
  | nil => cases vs <;> simp_all [okAll]
  | cons p ps ih => cases vs <;> simp_all [okAll]
/-- A contract, by its body's walk. -/
theorem CT_of {f : FuncId} {fn : Func} {c : Code} {ps : List Pr} {R : Pr} (hf : P.funcs[f]? = some fn) (hb : fn.body = some c) (hN : fn.ntmps = N) (hps : Nat.ble ps.length N = true)
    (h : ∀ w, Hc P N (enumK 0 ps) (Ext w) c (bodyPost P fn (Post w R))) : CT P f ps R := by
  intro w vs hk
  have hl := hk.length
  have hle := Nat.le_of_ble_eq_true hps
  refine calls_of_wp hf hb ((h w).out _ _ ⟨by simp; omega, rfl, fun t p hp => ?_, Ext.refl _⟩)
  obtain ⟨v, _, hv, hok⟩ := enumK_spec ps vs 0 t p hk hp
  have hlt : t < vs.length := (List.getElem?_eq_some_iff.1 (by simpa using hv)).1
  exact ⟨v, by simp [Array.getElem?_append, hlt]; simpa [hlt] using hv, hok⟩
theorem CT.out {f : FuncId} {ps : List Pr} {R : Pr} (h : CT P f ps R) : ∀ (w : World) (vs : List Value), okAll ps vs w → Calls P f vs.toArray w fun e w' => ∃ v, e = .returned v ∧ Ext w w' ∧ R.ok v w' := h
theorem CT.of {f : FuncId} {ps : List Pr} {R : Pr} (h : ∀ (w : World) (vs : List Value), okAll ps vs w → Calls P f vs.toArray w fun e w' => ∃ v, e = .returned v ∧ Ext w w' ∧ R.ok v w') : CT P f ps R := h
end
attribute [irreducible] CT Pend
end Go.Proofs.YtanlaggnhocjhaaGreat

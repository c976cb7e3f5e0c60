/-
  Functions as values: closures, calls of them.
-/
import Derived.Test.YtanlaggnhocjhaaGreatFresh
namespace Go.Proofs.YtanlaggnhocjhaaGreat
set_option linter.unusedSimpArgs false
set_option linter.unusedVariables false
open Go.RowKit

/-- A function value that keeps a contract, for every index. -/
def uFun {ι : Type} (P : Program) (ps : ι → List Pr) (R : ι → Pr) : UR := ⟨fun v w => ∃ f caps, v = .func (.func f) #[] caps ∧ callB P f = true ∧
  ∀ w', Ext w w' → ∀ (i : ι) (vs : List Value), okAll (ps i) vs w' → Calls P f (vs.toArray ++ caps) w' fun e w'' => ∃ u, e = .returned u ∧ Ext w' w'' ∧ (R i).ok u w'',
  fun _ _ _ he ⟨f, caps, h1, h2, h3⟩ => ⟨f, caps, h1, h2, fun w' he' => h3 w' (he.trans he')⟩⟩
theorem okAll.append {ps qs : List Pr} {vs us : List Value} {w : World} (h : okAll ps vs w) (k : okAll qs us w) : okAll (ps ++ qs) (vs ++ us) w := by
  induction ps generalizing vs with
  | nil => cases vs with
    | nil => exact k
    | cons v vs => cases h
  | cons p ps ih => cases vs with
    | nil => cases h
    | cons v vs => exact ⟨h.1, ih h.2⟩
section
variable {P : Program} {ops : Array Oper} {C : World → Prop} {N : Nat} {M : List (Nat × Pr) → List Oper → Prop} {K : List (Nat × Pr)} {rest : List Oper} {d : Nat} {op : Op} {ty : TypeId} {pos : String} {af : Array Edge} {g : Option (Nat × Bool)}
theorem W_makeFun (hM : Stepper P ops C N M) {ι : Type} (ps : ι → List Pr) (R : ι → Pr) {cs : List Pr} {f : FuncId} {xs : Array Operand} (hct : ∀ i, CT P f (ps i ++ cs) (R i)) (hg : wantedK ops K g = some true) (hN : Nat.blt d N = true) (hargs : knAll K xs.toList = some cs) (hB : callB P f = true)
    (h : M ((d, .inr (uFun P ps R)) :: K) rest) : M K (⟨some d, .makeFunc (.func f) #[] xs, ty, pos, af, g⟩ :: rest) :=
  W_det hM _ hN hg (fun ρ w hc hk => by
    have hall := knAll_ok (ρ := ρ) (w := w) xs.toList cs hargs fun x hx p hp => hk x (by simp only [Op.operands]; simpa using hx) p hp
    have e : (xs.toList.map ρ).toArray = xs.map ρ := by
      apply Array.ext'
      simp
    refine ⟨.func (.func f) #[] (xs.map ρ), ?_, f, xs.map ρ, rfl, hB, fun w' he i vs hv => ?_⟩
    · simp [execOp, Instr.makeFunc]
    · have := (hct i).out w' (vs ++ xs.toList.map ρ) (hv.append (hall.up he))
      rw [← e]
      simpa using this) h
theorem W_callFun (hM : Stepper P ops C N M) {ι : Type} (i : ι) {ps : ι → List Pr} {R : ι → Pr} {x : Operand} {xs : Array Operand} {ats : Array TypeId} (hx : kn K x = some (.inr (uFun P ps R))) (hg : wantedK ops K g = some true) (hN : Nat.blt d N = true) (hargs : knAll K xs.toList = some (ps i))
    (h : M ((d, R i) :: K) rest) : M K (⟨some d, .call { callee := .value x, args := xs, argTypes := ats }, ty, pos, af, g⟩ :: rest) :=
  W_gen hM (R i) hN hg (fun a w hC hk => by
    obtain ⟨f, caps, hv, hB, hcall⟩ := hk x (by simp [Op.operands, Call.operands]) _ hx
    have hall := knAll_ok (ρ := a.eval) (w := w) xs.toList _ hargs fun x hx p hp => hk x (by simp only [Op.operands, Call.operands]; exact Array.mem_append.2 (.inr (Array.mem_toList_iff.1 hx))) p hp
    have := hcall w (Ext.refl _) i (xs.toList.map a.eval) hall
    have e : (xs.toList.map a.eval).toArray = xs.map a.eval := by
      apply Array.ext'
      simp
    rw [e] at this
    have hr : (execOp a.eval ⟨some d, .call { callee := .value x, args := xs, argTypes := ats }, ty, pos, af, g⟩).run P w = .ok (.enter f (xs.map a.eval ++ caps)) w := by
      unfold callB at hB
      cases hfn : P.funcs[f]? with
      | none => rw [hfn] at hB; cases hB
      | some fn =>
        rw [hfn] at hB
        simp only [Bool.and_eq_true, Bool.not_eq_true'] at hB
        obtain ⟨h1, h2⟩ := hB
        have h3 : ¬ fn.body = none := by cases hb : fn.body <;> simp_all
        have h4 : ¬ fn.name = "runtime.NumGoroutine" := by simpa using h2
        simp [execOp, resolve, hv, Deferred.ofValue, invoke, callFunc, hfn, h4, h3]
    unfold gives
    rw [hr]
    exact this) h
/-- A slice known by value, of which the class says that it reads as a list. -/
theorem W_indexR (hM : Stepper P ops C N M) {α : Type} [Inhabited α] {e : Option TypeId} {Φ : Phi α} {xs : List α} {v : Value} {x y : Operand} {t : TypeId} {k : IntKind} {i : Int} (hU : ∀ w, C w → IsS e Φ xs v w) (hB : elemB P t Φ.k = true) (hg : wantedK ops K g = some true) (hN : Nat.blt d N = true)
    (hx : kn K x = some (.inl v)) (hy : kn K y = some (.inl (.int k i))) (hi : 0 ≤ i ∧ i < (xs.length : Int)) (h : M ((d, .inr (uP Φ (ix xs i))) :: K) rest) : M K (⟨some d, .indexAddr t x y, ty, pos, af, g⟩ :: rest) :=
  W_det hM _ hN hg (fun ρ w hc hk => by
    have hv : ρ x = v := hk x (by simp [Op.operands]) _ hx
    have hyv : ρ y = .int k i := hk y (by simp [Op.operands]) _ hy
    obtain ⟨A, n, c, rfl, hn, hcc, hm, hall⟩ := hU w hc
    obtain ⟨b, off, cs, rfl, hcell, hφ, _⟩ := hall i.toNat _ (ix_get hi.1 hi.2)
    obtain ⟨te, inf, hu, hinf, hsz⟩ := elemB_spec hB
    subst hn
    refine ⟨.pointer (some ⟨b, off + i.toNat * Φ.k, none⟩), ?_, b, off + i.toNat * Φ.k, cs, rfl, fun j u hj => ?_, hφ⟩
    · simp [execOp, hv, hyv, Instr.indexAt, asIntOf, run_underlying hu, hi, sizeOf_run hinf, hsz, Addr.add_lit]
    · have := hcell j u hj
      rwa [← Nat.add_assoc] at this) h
theorem W_lenR (hM : Stepper P ops C N M) {α : Type} {e : Option TypeId} {Φ : Phi α} {xs : List α} {v : Value} {x : Operand} {t : TypeId} (hU : ∀ w, C w → IsS e Φ xs v w) (hB : sliceB P t = true) (hg : wantedK ops K g = some true) (hN : Nat.blt d N = true) (hx : kn K x = some (.inl v))
    (h : M ((d, .inl (.int .i64 xs.length)) :: K) rest) : M K (⟨some d, .call { callee := .builtin .len, args := #[x], argTypes := #[t] }, ty, pos, af, g⟩ :: rest) :=
  W_val hM hN hg (fun ρ w hc hk => by
    have hv : ρ x = v := hk x (by simp [Op.operands, Call.operands]) _ hx
    obtain ⟨A, n, c, rfl, hn, _⟩ := hU w hc
    subst hn
    unfold sliceB at hB
    cases hu : P.underlying t with
    | none => rw [hu] at hB; cases hB
    | some dd =>
      rw [hu] at hB
      cases dd <;> first | (simp at hB; done) | skip
      simp [execOp, resolve, invoke, builtin, Builtin.len_, run_underlying hu, hv, goInt]) h
end
theorem CT_len2 {f : FuncId} {q : Pr} {ps : List Pr} {R : Pr} {α : Type} {e : Option TypeId} {Φ : Phi α} {xs : List α} (h : xs.length ≤ 9223372036854775807 → CT Tryz.prog f (q :: .inr (uS e Φ xs) :: ps) R) : CT Tryz.prog f (q :: .inr (uS e Φ xs) :: ps) R :=
  CT_fact (fun vs w hk => by
    match vs, hk with
    | u :: v :: vs, hk =>
      obtain ⟨A, n, c, hv, hn, hc, hm, _⟩ := (hk.2.1 : IsS e Φ xs v w)
      simp only [maxLen] at hm
      omega) h
def uInt (p : Int → Prop) : UR := ⟨fun v _ => ∃ r, v = .int .i64 r ∧ p r, fun _ _ _ _ h => h⟩
theorem mem_ix {α : Type} [Inhabited α] {xs : List α} {i : Int} (h0 : 0 ≤ i) (h1 : i < xs.length) : ix xs i ∈ xs := List.mem_of_getElem? (ix_get h0 h1)
theorem mem_all {α : Type} [Inhabited α] {xs : List α} {p : α → Prop} {z : α} (hz : z ∈ xs) (h : ∀ j : Nat, (j : Int) < xs.length → p (ix xs j)) : p z := by
  obtain ⟨i, hi⟩ := List.mem_iff_getElem?.1 hz
  have hl := (List.getElem?_eq_some_iff.1 hi).1
  have h2 := ix_get (xs := xs) (i := (i : Int)) (by omega) (by omega)
  rw [Int.toNat_natCast, hi] at h2
  injection h2 with h2
  rw [h2]
  exact h i (by omega)
theorem rd_intS : Rd Tryz.prog (pS none pI) 37 := Rd.slice Tryz.underlying37 (by kernel_rfl) (Nat.le_of_ble_eq_true rfl) (Rd.int Tryz.underlying3)
/-! ### The first place of which something holds -/
def firstI (q : Nat → Bool) : Nat → Int
  | 0 => -1
  | n + 1 => if 0 ≤ firstI q n then firstI q n else if q n = true then n else -1
theorem firstI_none {q : Nat → Bool} : ∀ {n : Nat}, (∀ j, j < n → q j = false) → firstI q n = -1
  | 0, _ => rfl
  | n + 1, h => by
    rw [firstI, firstI_none (n := n) fun j hj => h j (by omega), if_neg (by omega), if_neg (by rw [h n (by omega)]; exact Bool.false_ne_true)]
theorem firstI_some {q : Nat → Bool} {i : Nat} (hq : q i = true) (hb : ∀ j, j < i → q j = false) : ∀ {n : Nat}, i < n → firstI q n = i
  | 0, h => by omega
  | n + 1, h => by
    by_cases e : i = n
    · subst e
      rw [firstI, firstI_none hb, if_neg (by omega), if_pos hq]
    · have := firstI_some hq hb (n := n) (by omega)
      rw [firstI, this, if_pos (by omega)]
theorem fst_step {q : Nat → Bool} {i : Nat} (h : ∀ j, j < i → q j = false) (hi : q i = false) : ∀ j, j < i + 1 → q j = false := fun j hj => by
  by_cases e : j = i
  · rw [e]; exact hi
  · exact h j (by omega)
theorem firstI_bd {q : Nat → Bool} : ∀ {n : Nat}, -1 ≤ firstI q n ∧ firstI q n < n
  | 0 => by simp [firstI]
  | n + 1 => by
    have := firstI_bd (q := q) (n := n)
    rw [firstI]
    split
    · omega
    · split <;> omega
theorem firstI_le {q : Nat → Bool} {i : Nat} (hq : q i = true) : ∀ {n : Nat}, i < n → 0 ≤ firstI q n ∧ firstI q n ≤ i
  | 0, h => by omega
  | n + 1, h => by
    rw [firstI]
    by_cases e : i < n
    · have := firstI_le hq (n := n) e
      rw [if_pos this.1]; exact this
    · have e2 : i = n := by omega
      subst e2
      have hb := firstI_bd (q := q) (n := i)
      split
      · omega
      · omega
theorem firstI_val {q : Nat → Bool} : ∀ {n : Nat}, 0 ≤ firstI q n → q (firstI q n).toNat = true
  | 0, h => by simp [firstI] at h
  | n + 1, h => by
    rw [firstI] at h ⊢
    split
    · rename_i h1
      exact firstI_val h1
    · rename_i h1
      rw [if_neg h1] at h
      split
      · rename_i h2; simpa using h2
      · rename_i h2
        rw [if_neg h2] at h
        omega
end Go.Proofs.YtanlaggnhocjhaaGreat

/-
  One step of the walk for each kind of operation that computes, reads, or calls.
-/
import Derived.Test.YtanlaggnhocjhaaGreatHo
import Derived.ChangeKeysEq
import Derived.WalkLawsBesides
namespace Go.Proofs.YtanlaggnhocjhaaGreat
set_option linter.unusedSimpArgs false
set_option linter.unusedVariables false
open Go.RowKit

def inB (x a b : Int) : Bool := decide (a ≤ x) && decide (x ≤ b)
theorem inB_t (x a b : Int) : (inB x a b = true) = (a ≤ x ∧ x ≤ b) := by simp [inB]
theorem inB_f (x a b : Int) : (inB x a b = false) = (x < a ∨ b < x) := by
  rw [eq_iff_iff]
  simp only [inB, Bool.and_eq_false_iff, decide_eq_false_iff_not]
  omega
theorem wrapI {n : Int} (h : -9223372036854775808 ≤ n ∧ n ≤ 9223372036854775807) : IntKind.i64.wrap n = n := IntWalk.i64_in n h

/-! ### Data -/
/-- The rules by which a condition's truth is read. -/
theorem hqs : (∀ (α : Type) (a : α), (a = a) = True) ∧ ((¬ True) = False) ∧ ((¬ False) = True) ∧ (∀ (a : Bool), (a != a) = false) ∧ (∀ (a : Int), (a != a) = false) ∧ ((false = true) = False) ∧ ((true = false) = False) ∧ (∀ a b : Bool, ((a && b) = true) = (a = true ∧ b = true)) ∧ (∀ a b : Bool, ((a || b) = true) = (a = true ∨ b = true)) ∧ (∀ a b : Bool, ((a || b) = false) = (a = false ∧ b = false)) ∧ (∀ b : Bool, (!!b) = b) ∧
    (∀ x a b : Int, (inB x a b = true) = (a ≤ x ∧ x ≤ b)) ∧ (∀ x a b : Int, (inB x a b = false) = (x < a ∨ b < x)) ∧ (∀ (p : Prop) [Decidable p], (decide p = true) = p) ∧ (∀ (p : Prop) [Decidable p], (decide p = false) = ¬ p) ∧ (∀ b : Bool, ((!b) = true) = (b = false)) ∧ (∀ b : Bool, ((!b) = false) = (b = true)) ∧ (∀ b : Bool, (¬ b = true) = (b = false)) ∧ (∀ b : Bool, (¬ b = false) = (b = true)) ∧
    (∀ a b : Int, (¬ a < b) = (b ≤ a)) ∧ (∀ a b : Int, (¬ a ≤ b) = (b < a)) ∧ (∀ a b : Nat, (¬ a < b) = (b ≤ a)) ∧ (∀ a b : Nat, (¬ a ≤ b) = (b < a)) :=
  ⟨fun _ _ => eq_self _, not_true_eq_false, not_false_eq_true, fun _ => by simp, fun _ => by simp, by simp, by simp, fun _ _ => by simp, fun _ _ => by simp, fun _ _ => by simp, fun _ => by simp, inB_t, inB_f, fun _ _ => by simp, fun _ _ => by simp, fun _ => by simp, fun _ => by simp, fun _ => by simp, fun _ => by simp, fun _ _ => by simp, fun _ _ => by simp, fun _ _ => by simp, fun _ _ => by simp⟩

/-- w' has w's blocks, but for those of element type e. -/
def SameBut (e : TypeId) (w w' : World) : Prop := ∀ (b : Nat) (o : Obj), w.heap[b]? = some o → (∀ cs fr, o ≠ .cells cs e fr) → w'.heap[b]? = some o
/-- How a datum lies in k cells. -/
structure Phi (α : Type) where
  k : Nat
  φ : α → List Value → World → Prop
  up : ∀ x cs w w', Ext w w' → φ x cs w → φ x cs w'
  len : ∀ x cs w, φ x cs w → cs.length = k
  one : ∀ x cs w, φ x cs w → ∀ u ∈ cs, u.oneCell' = true
  /-- the element types of which none of its blocks is -/
  Av : TypeId → Prop
  st : ∀ e, Av e → ∀ x cs w w', SameBut e w w' → φ x cs w → φ x cs w'

def pI : Phi Int := ⟨1, fun x cs _ => cs = [.int .i64 x], fun _ _ _ _ _ h => h, (fun _ _ _ h => by rw [h]; rfl), (fun _ _ _ h u hu => by rw [h] at hu; simp at hu; subst hu; rfl), fun _ => True, fun _ _ _ _ _ _ _ h => h⟩
def pStr : Phi ByteArray := ⟨1, fun x cs _ => cs = [.string x], fun _ _ _ _ _ h => h, (fun _ _ _ h => by rw [h]; rfl), (fun _ _ _ h u hu => by rw [h] at hu; simp at hu; subst hu; rfl), fun _ => True, fun _ _ _ _ _ _ _ h => h⟩
def pNil {α : Type} : Phi α := ⟨0, fun _ cs _ => cs = [], fun _ _ _ _ _ h => h, (fun _ _ _ h => by rw [h]; rfl), (fun _ _ _ h u hu => by rw [h] at hu; cases hu), fun _ => True, fun _ _ _ _ _ _ _ h => h⟩
def pCat {α β : Type} (f : α → β) (Φ : Phi β) (Ψ : Phi α) : Phi α :=
  ⟨Φ.k + Ψ.k, fun x cs w => ∃ c1 c2, cs = c1 ++ c2 ∧ Φ.φ (f x) c1 w ∧ Ψ.φ x c2 w, fun x cs w w' he ⟨c1, c2, h, h1, h2⟩ => ⟨c1, c2, h, Φ.up _ _ _ _ he h1, Ψ.up _ _ _ _ he h2⟩,
   (fun x cs w ⟨c1, c2, h, h1, h2⟩ => by rw [h, List.length_append, Φ.len _ _ _ h1, Ψ.len _ _ _ h2]),
   (fun x cs w ⟨c1, c2, h, h1, h2⟩ u hu => by
    rw [h] at hu
    rcases List.mem_append.1 hu with hu | hu
    · exact Φ.one _ _ _ h1 u hu
    · exact Ψ.one _ _ _ h2 u hu), fun e => Φ.Av e ∧ Ψ.Av e, fun e he x cs w w' hs ⟨c1, c2, h, h1, h2⟩ => ⟨c1, c2, h, Φ.st e he.1 _ _ _ _ hs h1, Ψ.st e he.2 _ _ _ _ hs h2⟩⟩

/-- A slice that reads as a list; its array's element type, if it is known. -/
def IsS {α : Type} (e : Option TypeId) (Φ : Phi α) (xs : List α) (v : Value) (w : World) : Prop :=
  ∃ (A : Option Addr) (n c : Nat), v = .slice A n c ∧ n = xs.length ∧ n ≤ c ∧ c ≤ maxLen ∧
    ∀ i x, xs[i]? = some x → ∃ b off cs, A = some ⟨b, off, none⟩ ∧ (∀ j u, cs[j]? = some u → w.cell? ⟨b, off + (i * Φ.k + j), none⟩ = some u) ∧ Φ.φ x cs w ∧ ∀ t, e = some t → ∃ c0 fr, w.heap[b]? = some (.cells c0 t fr)
/-- A pointer to a datum. -/
def IsP {α : Type} (Φ : Phi α) (x : α) (v : Value) (w : World) : Prop :=
  ∃ b o cs, v = .pointer (some ⟨b, o, none⟩) ∧ (∀ j u, cs[j]? = some u → w.cell? ⟨b, o + j, none⟩ = some u) ∧ Φ.φ x cs w
/-- A datum by value, as an aggregate. -/
def IsA {α : Type} (Φ : Phi α) (x : α) (v : Value) (w : World) : Prop := ∃ cs : List Value, v = .agg cs.toArray ∧ Φ.φ x cs w

theorem Ext.blk {a b : World} (h : Ext a b) {k : Nat} {o : Obj} (hk : a.heap[k]? = some o) : b.heap[k]? = some o := (h.block k (Array.getElem?_eq_some_iff.1 hk).1).trans hk
theorem IsS.up {α : Type} {e : Option TypeId} {Φ : Phi α} {xs : List α} {v : Value} {w w' : World} (he : Ext w w') (h : IsS e Φ xs v w) : IsS e Φ xs v w' := by
  obtain ⟨A, n, c, hv, hn, hc, hm, hall⟩ := h
  refine ⟨A, n, c, hv, hn, hc, hm, fun i x hx => ?_⟩
  obtain ⟨b, off, cs, hA, hcell, hφ, ht⟩ := hall i x hx
  exact ⟨b, off, cs, hA, fun j u hu => he.cell (hcell j u hu), Φ.up _ _ _ _ he hφ, fun t h => let ⟨c0, fr, hb⟩ := ht t h; ⟨c0, fr, he.blk hb⟩⟩
theorem IsS.st {α : Type} {t e : TypeId} {Φ : Phi α} {xs : List α} {v : Value} {w w' : World} (hte : t ≠ e) (hav : Φ.Av e) (hs : SameBut e w w') (h : IsS (some t) Φ xs v w) : IsS (some t) Φ xs v w' := by
  obtain ⟨A, n, c, hv, hn, hc, hm, hall⟩ := h
  refine ⟨A, n, c, hv, hn, hc, hm, fun i x hx => ?_⟩
  obtain ⟨b, off, cs, hA, hcell, hφ, ht⟩ := hall i x hx
  obtain ⟨c0, fr, hb⟩ := ht t rfl
  have hb' : w'.heap[b]? = some (.cells c0 t fr) := hs b _ hb (fun cs fr h => by injection h with _ h2; exact hte h2)
  refine ⟨b, off, cs, hA, fun j u hu => ?_, Φ.st e hav _ _ _ _ hs hφ, fun t' h => ⟨c0, fr, by injection h with h; rw [← h]; exact hb'⟩⟩
  have := hcell j u hu
  simp only [World.cell?, hb'] at this ⊢
  simpa only [hb] using this
theorem IsP.up {α : Type} {Φ : Phi α} {x : α} {v : Value} {w w' : World} (he : Ext w w') (h : IsP Φ x v w) : IsP Φ x v w' := by
  obtain ⟨b, o, cs, hv, hcell, hφ⟩ := h
  exact ⟨b, o, cs, hv, fun j u hu => he.cell (hcell j u hu), Φ.up _ _ _ _ he hφ⟩
theorem IsA.up {α : Type} {Φ : Phi α} {x : α} {v : Value} {w w' : World} (he : Ext w w') (h : IsA Φ x v w) : IsA Φ x v w' := by
  obtain ⟨cs, hv, hφ⟩ := h
  exact ⟨cs, hv, Φ.up _ _ _ _ he hφ⟩
def uS {α : Type} (e : Option TypeId) (Φ : Phi α) (xs : List α) : UR := ⟨IsS e Φ xs, fun _ _ _ he h => h.up he⟩
def uP {α : Type} (Φ : Phi α) (x : α) : UR := ⟨IsP Φ x, fun _ _ _ he h => h.up he⟩
def uA {α : Type} (Φ : Phi α) (x : α) : UR := ⟨IsA Φ x, fun _ _ _ he h => h.up he⟩
/-- A slice in a cell. -/
def pS {α : Type} (e : Option TypeId) (Φ : Phi α) : Phi (List α) := ⟨1, fun xs cs w => ∃ v, cs = [v] ∧ IsS e Φ xs v w, fun _ _ _ _ he ⟨v, h, hs⟩ => ⟨v, h, hs.up he⟩, (fun _ _ _ ⟨v, h, _⟩ => by rw [h]; rfl),
  (fun _ _ _ ⟨v, h, hs⟩ u hu => by
    rw [h] at hu
    simp at hu
    subst hu
    obtain ⟨A, n, c, hv, _⟩ := hs
    rw [hv]; rfl), fun t => ∃ t', e = some t' ∧ t' ≠ t ∧ Φ.Av t, fun t ht xs cs w w' hs ⟨v, h, hv⟩ => ⟨v, h, by obtain ⟨t', rfl, h1, h2⟩ := ht; exact hv.st h1 h2 hs⟩⟩

/-- Several values. -/
def okAll : List Pr → List Value → World → Prop
  | [], [], _ => True
  | p :: ps, v :: vs, w => p.ok v w ∧ okAll ps vs w
  | _, _, _ => False
theorem okAll.up {ps : List Pr} {vs : List Value} {w w' : World} (he : Ext w w') (h : okAll ps vs w) : okAll ps vs w' := by
  induction ps generalizing vs with
  | nil => cases vs <;> simp_all [okAll]
  | cons p ps ih =>
    cases vs with
    | nil => simp [okAll] at h
    | cons v vs => exact ⟨Pr.up_ok he h.1, ih h.2⟩
theorem okAll.get {ps : List Pr} {vs : List Value} {w : World} (h : okAll ps vs w) {i : Nat} {p : Pr} (hi : ps[i]? = some p) : ∃ v, vs[i]? = some v ∧ p.ok v w := by
  induction ps generalizing vs i with
  | nil => simp at hi
  | cons q ps ih =>
    cases vs with
    | nil => simp [okAll] at h
    | cons v vs =>
      cases i with
      | zero => simp at hi; subst hi; exact ⟨v, rfl, h.1⟩
      | succ i => simpa using ih h.2 (by simpa using hi)
def uT (ps : List Pr) : UR := ⟨fun v w => ∃ vs : List Value, v = .tuple vs.toArray ∧ okAll ps vs w, fun _ _ _ he ⟨vs, h, hk⟩ => ⟨vs, h, hk.up he⟩⟩

/-! ### Guards -/
def wantedK (ops : Array Oper) (K : List (Nat × Pr)) : Option (Nat × Bool) → Option Bool
  | none => some true
  | some (j, b) => match (ops[j]?).bind (·.dst) with
    | none => some false
    | some t => match lookK K t with
      | some (.inl (.bool g)) => some (g == b)
      | some (.inl (.tuple _)) => some false
      | _ => none

section
variable {P : Program} {ops : Array Oper} {C : World → Prop} {N : Nat} {M : List (Nat × Pr) → List Oper → Prop} {K : List (Nat × Pr)} {rest : List Oper} {d : Nat} {op : Op} {ty : TypeId} {pos : String} {af : Array Edge} {g : Option (Nat × Bool)}

theorem wantedK_spec {a : Act} {w : World} {x : Bool} (h : wantedK ops K g = some x) (hk : ∀ t ∈ (⟨some d, op, ty, pos, af, g⟩ : Oper).looksAt ops, ∀ p, lookK K t = some p → okAt p a t w) :
    Region.wanted (⟨some d, op, ty, pos, af, g⟩ : Oper) (yielded ops a.tmps) = x := by
  cases g with
  | none => simp only [wantedK, Option.some.injEq] at h; subst h; rfl
  | some gb =>
    obtain ⟨j, b⟩ := gb
    simp only [wantedK] at h
    simp only [Region.wanted, yielded]
    cases ht : (ops[j]?).bind (·.dst) with
    | none => rw [ht] at h; simp only [Option.some.injEq] at h; subst h; rfl
    | some t =>
      rw [ht] at h
      simp only at h
      have hmem : t ∈ (⟨some d, op, ty, pos, af, some (j, b)⟩ : Oper).looksAt ops := by simp [Oper.looksAt, ht]
      simp only [Option.bind_some]
      split at h
      · rename_i g' hg'
        obtain ⟨v, hv, hok⟩ := hk t hmem _ hg'
        have : v = .bool g' := hok
        subst this
        rw [hv]
        simp only [Option.some.injEq] at h
        subst h
        cases g' <;> cases b <;> rfl
      · rename_i vs hg'
        obtain ⟨v, hv, hok⟩ := hk t hmem _ hg'
        have : v = .tuple vs := hok
        subst this
        rw [hv]
        simp only [Option.some.injEq] at h
        subst h
        rfl
      · cases h

theorem kn_ok {a : Act} {w : World} {x : Operand} {p : Pr} (hx : x ∈ op.operands) (hp : kn K x = some p) (hk : ∀ t ∈ (⟨some d, op, ty, pos, af, g⟩ : Oper).looksAt ops, ∀ p, lookK K t = some p → okAt p a t w) : p.ok (a.eval x) w := by
  cases x with
  | tmp t =>
    obtain ⟨v, hv, hok⟩ := hk t (List.mem_append_left _ (List.mem_filterMap.2 ⟨.tmp t, by simpa using hx, rfl⟩)) p hp
    have : a.eval (.tmp t) = v := by simp [Act.eval, hv]
    rw [this]
    exact hok
  | const v => simp only [kn, Option.some.injEq] at hp; subst hp; rfl
  | global n => simp only [kn, Option.some.injEq] at hp; subst hp; rfl
  | func f => simp only [kn, Option.some.injEq] at hp; subst hp; rfl

theorem W_gen (hM : Stepper P ops C N M) (R : Pr) (hN : Nat.blt d N = true) (hg : wantedK ops K g = some true)
    (hob : ∀ (a : Act) (w : World), C w → (∀ x ∈ op.operands, ∀ p, kn K x = some p → p.ok (a.eval x) w) → gives P ⟨some d, op, ty, pos, af, g⟩ a w (fun v w' => Ext w w' ∧ R.ok v w'))
    (h : M ((d, R) :: K) rest) : M K (⟨some d, op, ty, pos, af, g⟩ :: rest) :=
  hM.step rfl hN (fun a w hc hk => by
    rw [if_pos (wantedK_spec hg hk)]
    exact hob a w hc fun x hx p hp => kn_ok hx hp hk) h

/-- An operation whose guard says no. -/
theorem W_skip (hM : Stepper P ops C N M) (hg : wantedK ops K g = some false) (hN : Nat.blt d N = true) (h : M ((d, .inl undef) :: K) rest) : M K (⟨some d, op, ty, pos, af, g⟩ :: rest) :=
  hM.step rfl hN (fun a w _ hk => by
    rw [if_neg (by rw [wantedK_spec hg hk]; exact Bool.false_ne_true)]
    exact rfl) h

/-- The operation yields this very value. -/
theorem W_det (hM : Stepper P ops C N M) (R : Pr) (hN : Nat.blt d N = true) (hg : wantedK ops K g = some true)
    (hrun : ∀ (ρ : Operand → Value) (w : World), C w → (∀ x ∈ op.operands, ∀ p, kn K x = some p → p.ok (ρ x) w) → ∃ v, (execOp ρ ⟨some d, op, ty, pos, af, g⟩).run P w = .ok (.value v) w ∧ R.ok v w)
    (h : M ((d, R) :: K) rest) : M K (⟨some d, op, ty, pos, af, g⟩ :: rest) :=
  W_gen hM R hN hg (fun a w hc hk => by
    obtain ⟨v, hr, hv⟩ := hrun a.eval w hc hk
    unfold gives
    rw [hr]
    exact ⟨Ext.refl _, hv⟩) h

theorem W_val (hM : Stepper P ops C N M) {v : Value} (hN : Nat.blt d N = true) (hg : wantedK ops K g = some true)
    (hrun : ∀ (ρ : Operand → Value) (w : World), C w → (∀ x ∈ op.operands, ∀ p, kn K x = some p → p.ok (ρ x) w) → (execOp ρ ⟨some d, op, ty, pos, af, g⟩).run P w = .ok (.value v) w)
    (h : M ((d, .inl v) :: K) rest) : M K (⟨some d, op, ty, pos, af, g⟩ :: rest) :=
  W_det hM (.inl v) hN hg (fun ρ w hc hk => ⟨v, hrun ρ w hc hk, rfl⟩) h

/-- Part on a guard that is not decided. -/
theorem W_split (hM : Stepper P ops C N M) {l : List Oper} (t : Nat) (b : Bool) (hb : lookK K t = some (.inl (.bool b))) (h1 : b = true → M ((t, .inl (.bool true)) :: K) l) (h0 : b = false → M ((t, .inl (.bool false)) :: K) l) : M K l := by
  have key : ∀ b', b = b' → M ((t, .inl (.bool b')) :: K) l → M K l := fun b' e h => hM.congr (K := (t, .inl (.bool b')) :: K) (fun s => by
    by_cases hs : t = s
    · subst hs
      rw [lookK_same, hb, e]
    · rw [lookK_ne _ hs]) h
  cases b with
  | true => exact key _ rfl (h1 rfl)
  | false => exact key _ rfl (h0 rfl)

/-- Part on the guard of the next operation. -/
theorem W_splitG (hM : Stepper P ops C N M) {o : Oper} (t : Nat) (ht : (o.guard.bind fun g => (ops[g.1]?).bind (·.dst)) = some t) (b : Bool) (hb : lookK K t = some (.inl (.bool b)))
    (h1 : b = true → M ((t, .inl (.bool true)) :: K) (o :: rest)) (h0 : b = false → M ((t, .inl (.bool false)) :: K) (o :: rest)) : M K (o :: rest) := W_split hM t b hb h1 h0

theorem W_move (hM : Stepper P ops C N M) {x : Operand} {p : Pr} (hg : wantedK ops K g = some true) (hN : Nat.blt d N = true) (hx : kn K x = some p) (h : M ((d, p) :: K) rest) : M K (⟨some d, .move x, ty, pos, af, g⟩ :: rest) :=
  W_det hM p hN hg (fun _ _ _ hk => ⟨_, rfl, hk x (by simp [Op.operands]) p hx⟩) h
theorem W_assign (hM : Stepper P ops C N M) {x : Operand} {p : Pr} (hg : wantedK ops K g = some true) (hN : Nat.blt d N = true) (hx : kn K x = some p) (h : M ((d, p) :: K) rest) : M K (⟨some d, .assign x, ty, pos, af, g⟩ :: rest) :=
  W_det hM p hN hg (fun _ _ _ hk => ⟨_, rfl, hk x (by simp [Op.operands]) p hx⟩) h

/-! ### Numbers and bools -/
def cmpI : BinOp → Int → Int → Option Bool
  | .lss, a, b => some (decide (a < b))
  | .leq, a, b => some (decide (a ≤ b))
  | .gtr, a, b => some (decide (b < a))
  | .geq, a, b => some (decide (b ≤ a))
  | .eql, a, b => some (decide (a = b))
  | .neq, a, b => some (!decide (a = b))
  | _, _, _ => none
theorem ieqd (a b : Int) : (a == b) = decide (a = b) := by rw [Bool.eq_iff_iff]; simp
theorem ineqd (a b : Int) : (a != b) = !decide (a = b) := by simp only [bne, ieqd]
theorem run_cmpI {bo : BinOp} {n m : Int} {b : Bool} (h : cmpI bo n m = some b) (k : IntKind) (t t' : TypeId) (x y : Operand) (w : World) (ρ : Operand → Value) (hx : ρ x = .int k n) (hy : ρ y = .int k m) :
    (execOp ρ ⟨some d, .binOp bo t x y t', ty, pos, af, g⟩).run P w = .ok (.value (.bool b)) w := by
  cases bo <;> simp only [cmpI, Option.some.injEq, reduceCtorEq] at h <;> subst h <;> simp [execOp, hx, hy, go_sem, ieqd, ineqd]
theorem W_cmp (hM : Stepper P ops C N M) {bo : BinOp} {t t' : TypeId} {x y : Operand} {k : IntKind} {n m : Int} {b : Bool} (hg : wantedK ops K g = some true) (hN : Nat.blt d N = true)
    (hx : kn K x = some (.inl (.int k n))) (hy : kn K y = some (.inl (.int k m))) (hb : cmpI bo n m = some b)
    (h : M ((d, .inl (.bool b)) :: K) rest) : M K (⟨some d, .binOp bo t x y t', ty, pos, af, g⟩ :: rest) :=
  W_val hM hN hg (fun ρ w _ hk => run_cmpI hb k t t' x y w ρ (hk x (by simp [Op.operands]) _ hx) (hk y (by simp [Op.operands]) _ hy)) h

def arI : BinOp → Int → Int → Option Int
  | .add, a, b => some (a + b)
  | .sub, a, b => some (a - b)
  | .mul, a, b => some (a * b)
  | _, _, _ => none
theorem run_arI {bo : BinOp} {n m r : Int} (h : arI bo n m = some r) (hr : -9223372036854775808 ≤ r ∧ r ≤ 9223372036854775807) (t t' : TypeId) (x y : Operand) (w : World) (ρ : Operand → Value) (hx : ρ x = .int .i64 n) (hy : ρ y = .int .i64 m) :
    (execOp ρ ⟨some d, .binOp bo t x y t', ty, pos, af, g⟩).run P w = .ok (.value (.int .i64 r)) w := by
  cases bo <;> simp only [arI, Option.some.injEq, reduceCtorEq] at h <;> subst h <;> simp [execOp, hx, hy, go_sem, Op.intArith, wrapI hr]
theorem W_ar (hM : Stepper P ops C N M) {bo : BinOp} {t t' : TypeId} {x y : Operand} {n m r : Int} (hg : wantedK ops K g = some true) (hN : Nat.blt d N = true)
    (hx : kn K x = some (.inl (.int .i64 n))) (hy : kn K y = some (.inl (.int .i64 m))) (hb : arI bo n m = some r) (hr : -9223372036854775808 ≤ r ∧ r ≤ 9223372036854775807)
    (h : M ((d, .inl (.int .i64 r)) :: K) rest) : M K (⟨some d, .binOp bo t x y t', ty, pos, af, g⟩ :: rest) :=
  W_val hM hN hg (fun ρ w _ hk => run_arI hb hr t t' x y w ρ (hk x (by simp [Op.operands]) _ hx) (hk y (by simp [Op.operands]) _ hy)) h
theorem W_quo (hM : Stepper P ops C N M) {t t' : TypeId} {x y : Operand} {n m : Int} (hg : wantedK ops K g = some true) (hN : Nat.blt d N = true)
    (hx : kn K x = some (.inl (.int .i64 n))) (hy : kn K y = some (.inl (.int .i64 m))) (h0 : 0 ≤ n ∧ n ≤ 9223372036854775807 ∧ 1 ≤ m)
    (h : M ((d, .inl (.int .i64 (n / m))) :: K) rest) : M K (⟨some d, .binOp .quo t x y t', ty, pos, af, g⟩ :: rest) :=
  W_val hM hN hg (fun ρ w _ hk => by
    have hx' : ρ x = .int .i64 n := hk x (by simp [Op.operands]) _ hx
    have hy' : ρ y = .int .i64 m := hk y (by simp [Op.operands]) _ hy
    have hm : m ≠ 0 := by omega
    simp [execOp, hx', hy', go_sem, Op.intDiv, hm, IntWalk.i64_quo n m h0]) h
theorem W_rem (hM : Stepper P ops C N M) {t t' : TypeId} {x y : Operand} {n m : Int} (hg : wantedK ops K g = some true) (hN : Nat.blt d N = true)
    (hx : kn K x = some (.inl (.int .i64 n))) (hy : kn K y = some (.inl (.int .i64 m))) (h0 : 0 ≤ n ∧ n ≤ 9223372036854775807 ∧ 1 ≤ m)
    (h : M ((d, .inl (.int .i64 (n % m))) :: K) rest) : M K (⟨some d, .binOp .rem t x y t', ty, pos, af, g⟩ :: rest) :=
  W_val hM hN hg (fun ρ w _ hk => by
    have hx' : ρ x = .int .i64 n := hk x (by simp [Op.operands]) _ hx
    have hy' : ρ y = .int .i64 m := hk y (by simp [Op.operands]) _ hy
    have hm : m ≠ 0 := by omega
    have hr : n.tmod m = n % m := IntWalk.rem_in n m h0.1
    have hw : IntKind.i64.wrap (n % m) = n % m := by
      have h1 := Int.emod_nonneg n hm
      have h3 := Int.ediv_nonneg h0.1 (show (0 : Int) ≤ m by omega)
      have h4 := Int.mul_ediv_add_emod n m
      have h5 : 0 ≤ m * (n / m) := Int.mul_nonneg (by omega) h3
      exact wrapI (by omega)
    simp [execOp, hx', hy', go_sem, Op.intDiv, hm, hr, hw]) h
theorem W_not (hM : Stepper P ops C N M) {t : TypeId} {x : Operand} {b : Bool} (hg : wantedK ops K g = some true) (hN : Nat.blt d N = true) (hx : kn K x = some (.inl (.bool b)))
    (h : M ((d, .inl (.bool (!b))) :: K) rest) : M K (⟨some d, .unOp .not t x, ty, pos, af, g⟩ :: rest) :=
  W_val hM hN hg (fun ρ w _ hk => by
    have hx' : ρ x = .bool b := hk x (by simp [Op.operands]) _ hx
    simp [execOp, hx', Op.unary]) h
theorem W_neqB (hM : Stepper P ops C N M) {t t' : TypeId} {x y : Operand} {b c : Bool} (hg : wantedK ops K g = some true) (hN : Nat.blt d N = true) (ht : P.underlying t = some .bool)
    (hx : kn K x = some (.inl (.bool b))) (hy : kn K y = some (.inl (.bool c)))
    (h : M ((d, .inl (.bool (b != c))) :: K) rest) : M K (⟨some d, .binOp .neq t x y t', ty, pos, af, g⟩ :: rest) :=
  W_val hM hN hg (fun ρ w _ hk => by
    have hx' : ρ x = .bool b := hk x (by simp [Op.operands]) _ hx
    have hy' : ρ y = .bool c := hk y (by simp [Op.operands]) _ hy
    have := run_neq_bool (P := P) w t b c ht
    simp [execOp, hx', hy', go_sem, this, Result.andThen, bne]) h
theorem W_eqlStr (hM : Stepper P ops C N M) {t t' : TypeId} {x y : Operand} {s s' : ByteArray} (hg : wantedK ops K g = some true) (hN : Nat.blt d N = true)
    (hx : kn K x = some (.inl (.string s))) (hy : kn K y = some (.inl (.string s')))
    (h : M ((d, .inl (.bool (s.toList == s'.toList))) :: K) rest) : M K (⟨some d, .binOp .eql t x y t', ty, pos, af, g⟩ :: rest) :=
  W_val hM hN hg (fun ρ w _ hk => by
    have hx' : ρ x = .string s := hk x (by simp [Op.operands]) _ hx
    have hy' : ρ y = .string s' := hk y (by simp [Op.operands]) _ hy
    simp [execOp, hx', hy', go_sem]) h
theorem W_neqStr (hM : Stepper P ops C N M) {t t' : TypeId} {x y : Operand} {s s' : ByteArray} (hg : wantedK ops K g = some true) (hN : Nat.blt d N = true)
    (hx : kn K x = some (.inl (.string s))) (hy : kn K y = some (.inl (.string s')))
    (h : M ((d, .inl (.bool (!(s.toList == s'.toList)))) :: K) rest) : M K (⟨some d, .binOp .neq t x y t', ty, pos, af, g⟩ :: rest) :=
  W_val hM hN hg (fun ρ w _ hk => by
    have hx' : ρ x = .string s := hk x (by simp [Op.operands]) _ hx
    have hy' : ρ y = .string s' := hk y (by simp [Op.operands]) _ hy
    simp [execOp, hx', hy', go_sem]) h
theorem W_pickT (hM : Stepper P ops C N M) {c x y : Operand} {p : Pr} (hg : wantedK ops K g = some true) (hN : Nat.blt d N = true) (hc : kn K c = some (.inl (.bool true))) (hx : kn K x = some p)
    (h : M ((d, p) :: K) rest) : M K (⟨some d, .pick c x y, ty, pos, af, g⟩ :: rest) :=
  W_det hM p hN hg (fun ρ w _ hk => ⟨ρ x, by
    have hc' : ρ c = .bool true := hk c (by simp [Op.operands]) _ hc
    simp [execOp, hc', asBool], hk x (by simp [Op.operands]) _ hx⟩) h
theorem W_pickF (hM : Stepper P ops C N M) {c x y : Operand} {p : Pr} (hg : wantedK ops K g = some true) (hN : Nat.blt d N = true) (hc : kn K c = some (.inl (.bool false))) (hy : kn K y = some p)
    (h : M ((d, p) :: K) rest) : M K (⟨some d, .pick c x y, ty, pos, af, g⟩ :: rest) :=
  W_det hM p hN hg (fun ρ w _ hk => ⟨ρ y, by
    have hc' : ρ c = .bool false := hk c (by simp [Op.operands]) _ hc
    simp [execOp, hc', asBool], hk y (by simp [Op.operands]) _ hy⟩) h
theorem W_max (hM : Stepper P ops C N M) {x y : Operand} {ats : Array TypeId} {n m : Int} (hg : wantedK ops K g = some true) (hN : Nat.blt d N = true) (hx : kn K x = some (.inl (.int .i64 n))) (hy : kn K y = some (.inl (.int .i64 m)))
    (h : M ((d, .inl (.int .i64 (max n m))) :: K) rest) : M K (⟨some d, .call { callee := .builtin .max, args := #[x, y], argTypes := ats }, ty, pos, af, g⟩ :: rest) :=
  W_val hM hN hg (fun ρ w _ hk => by
    have hx' : ρ x = .int .i64 n := hk x (by simp [Op.operands, Call.operands]) _ hx
    have hy' : ρ y = .int .i64 m := hk y (by simp [Op.operands, Call.operands]) _ hy
    simp [execOp, resolve, invoke, builtin, hx', hy', Builtin.max_, Builtin.max2]
    split <;> omega) h
end
end Go.Proofs.YtanlaggnhocjhaaGreat

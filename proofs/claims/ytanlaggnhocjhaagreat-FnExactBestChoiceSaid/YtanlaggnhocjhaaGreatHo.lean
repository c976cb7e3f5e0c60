/-
  A region whose operations only compute, read, or make new memory is walked once, in the order of the text, whatever order the draw picks. Conditions: Bool checks on the region, by the kernel.
-/
import Derived.Below
import Derived.StillTail
import Derived.WalkKit
import Derived.Deep.Draws
namespace Go.Proofs.YtanlaggnhocjhaaGreat
set_option linter.unusedSimpArgs false
set_option linter.unusedVariables false
open Go.RowKit

/-- w' is w with new blocks. -/
def Ext (w w' : World) : Prop := Below w.heap.size w w'
theorem Ext.refl (w : World) : Ext w w := Below.refl _ _
theorem Ext.trans {a b c : World} (h : Ext a b) (k : Ext b c) : Ext a c := Below.trans h (Below.mono k h.size)
theorem Ext.drew {a b : World} (h : Ext a b) : Ext a b.drew := Below.drew h
theorem Ext.alloc {a b : World} (h : Ext a b) (o : Obj) : Ext a (b.alloc o) := Below.alloc h h.size o
theorem Ext.cell {a b : World} (h : Ext a b) {p : Addr} {v : Value} (hc : a.cell? p = some v) : b.cell? p = some v :=
  (Below.cell h (World.block_lt_of_cell? a p hc)).trans hc

/-- A property of a value that new blocks do not turn. -/
structure UR where
  R : Value → World → Prop
  up : ∀ v w w', Ext w w' → R v w → R v w'
/-- What is known of a slot: its value, or a property of it. -/
abbrev Pr := Value ⊕ UR
def Pr.ok (p : Pr) (v : Value) (w : World) : Prop := match p with | .inl u => v = u | .inr U => U.R v w
theorem Pr.up_ok {p : Pr} {v : Value} {w w' : World} (he : Ext w w') (hk : p.ok v w) : p.ok v w' := by
  cases p with
  | inl u => exact hk
  | inr U => exact U.up v w w' he hk

def lookK : List (Nat × Pr) → Nat → Option Pr
  | [], _ => none
  | (d, p) :: K, t => match Nat.beq d t with | true => some p | false => lookK K t
theorem lookK_same (K : List (Nat × Pr)) (d : Nat) (p : Pr) : lookK ((d, p) :: K) d = some p := by
  have : Nat.beq d d = true := Nat.beq_refl d
  simp only [lookK, this]
theorem lookK_ne {K : List (Nat × Pr)} {d t : Nat} (p : Pr) (h : d ≠ t) : lookK ((d, p) :: K) t = lookK K t := by
  have : Nat.beq d t = false := by
    cases hb : Nat.beq d t with
    | true => exact absurd (Nat.eq_of_beq_eq_true hb) h
    | false => rfl
  simp only [lookK, this]
def kn (K : List (Nat × Pr)) : Operand → Option Pr
  | .tmp t => lookK K t
  | .const v => some (.inl v)
  | .global g => some (.inl (.pointer (some ⟨g, 0, none⟩)))
  | .func f => some (.inl (.func (.func f) #[] #[]))

def okAt (p : Pr) (a : Act) (t : Nat) (w : World) : Prop := ∃ v, a.tmps[t]? = some v ∧ p.ok v w

/-- The state: the slots that are known; the class of the world. -/
structure St (N : Nat) (K : List (Nat × Pr)) (C : World → Prop) (a : Act) (w : World) : Prop where
  size : a.tmps.size = N
  defers : a.defers = []
  slots : ∀ t p, lookK K t = some p → okAt p a t w
  cls : C w

def UpC (C : World → Prop) : Prop := ∀ w w', C w → Ext w w' → C w'

/-- The operation yields a value with this property, or calls a function that does. -/
def gives (P : Program) (o : Oper) (a : Act) (w : World) (G : Value → World → Prop) : Prop :=
  match (execOp a.eval o).run P w with
  | .ok (.value v) w' => G v w'
  | .ok .skip w' => G undef w'
  | .ok (.enter f args) w' => Calls P f args w' fun e w'' => ∃ v, e = .returned v ∧ G v w''
  | _ => False

theorem gives.wp {P : Program} {o : Oper} {a : Act} {w : World} {G : Value → World → Prop} {K : Act → World → Prop} {Q : Exit → Act → World → Prop}
    (h : gives P o a w G) (hK : ∀ v w', G v w' → K (a.put o.dst v) w') : o.wp P a w K Q := by
  unfold gives at h
  unfold Oper.wp
  generalize (execOp a.eval o).run P w = r at *
  cases r with
  | ok n w' =>
    cases n <;> simp only at h <;> simp only [Oper.upon]
    case value u => exact hK _ _ h
    case skip => exact hK _ _ h
    case enter f args => exact h.mono fun e w'' ⟨v, he, hv⟩ => by subst he; exact hK _ _ hv
  | halt x w' => exact h.elim

/-- What is asked of one operation: from what is known of the slots that it looks at. -/
def Ob (P : Program) (ops : Array Oper) (C : World → Prop) (K : List (Nat × Pr)) (o : Oper) (R : Pr) : Prop :=
  ∀ (a : Act) (w : World), C w → (∀ t ∈ o.looksAt ops, ∀ p, lookK K t = some p → okAt p a t w) →
    if Region.wanted o (yielded ops a.tmps) = true then gives P o a w (fun v w' => Ext w w' ∧ R.ok v w') else R.ok undef w

theorem Ob.congr {P : Program} {ops : Array Oper} {C : World → Prop} {K K' : List (Nat × Pr)} {o : Oper} {R : Pr} (hK : ∀ t, lookK K t = lookK K' t) (h : Ob P ops C K o R) : Ob P ops C K' o R :=
  fun a w hc hl => h a w hc fun t ht p hp => hl t ht p (by rw [← hK]; exact hp)

/-- The operations of a head, in the order of the text: what each leaves. -/
def zipK (l : List Oper) (Rs : List Pr) : List (Nat × Pr) := (l.map fun o => o.dst.getD 0).zip Rs
def walk (P : Program) (ops : Array Oper) (C : World → Prop) (Fin : List (Nat × Pr) → Prop) (K : List (Nat × Pr)) (l : List Oper) : Prop :=
  ∃ Rs : List Pr, Rs.length = l.length ∧ Fin ((zipK l Rs).reverse ++ K) ∧ ∀ i o, l[i]? = some o → ∃ R, Rs[i]? = some R ∧ Ob P ops C (((zipK l Rs).take i).reverse ++ K) o R
/-- The operations of a list in their order. -/
def Sq (P : Program) (ops : Array Oper) (N : Nat) (C : World → Prop) (Q : Exit → Act → World → Prop) (K : List (Nat × Pr)) (l : List Oper) : Prop :=
  ∀ a w, St N K C a w → wpList P ops Q l a w

/-! ### The order -/
/-- The head's operations: each names slots that exist; what it looks at is written by what it waits for; it waits for earlier ones alone; no slot is written twice. -/
def headB (md : Region.Mode) (ops : Array Oper) (m sz : Nat) : Bool :=
  (List.range m).all fun i => match ops[i]? with
    | none => false
    | some o =>
      (match o.dst with | none => false | some d => decide (d < sz) && (List.range i).all fun j => match ops[j]? with | none => true | some oj => oj.dst != some d) &&
      (o.after.toList.all fun e => !Region.binds md e || decide (e.on < i)) &&
      (o.looksAt ops).all fun t => decide (t < sz) && (List.range m).all fun j => match ops[j]? with | none => true | some oj => oj.dst != some t || (decide (j < i) && Region.waitsFor md ops i j)

structure HeadAt (md : Region.Mode) (ops : Array Oper) (m sz i : Nat) (o : Oper) : Prop where
  dst : ∃ d, o.dst = some d ∧ d < sz ∧ ∀ j oj, j < i → ops[j]? = some oj → oj.dst ≠ some d
  back : ∀ e ∈ o.after, Region.binds md e = true → e.on < i
  looks : ∀ t ∈ o.looksAt ops, t < sz ∧ ∀ j oj, j < m → ops[j]? = some oj → oj.dst = some t → j < i ∧ Region.waitsFor md ops i j = true

theorem headB_spec {md : Region.Mode} {ops : Array Oper} {m sz : Nat} (h : headB md ops m sz = true) {i : Nat} (hi : i < m) : ∃ o, ops[i]? = some o ∧ HeadAt md ops m sz i o := by
  have h1 := List.all_eq_true.1 h i (List.mem_range.2 hi)
  cases ho : ops[i]? with
  | none => rw [ho] at h1; cases h1
  | some o =>
    rw [ho] at h1
    simp only [Bool.and_eq_true] at h1
    obtain ⟨⟨h2, h3⟩, h4⟩ := h1
    refine ⟨o, rfl, ?_, ?_, ?_⟩
    · cases hd : o.dst with
      | none => rw [hd] at h2; cases h2
      | some d =>
        rw [hd] at h2
        simp only [Bool.and_eq_true, decide_eq_true_eq] at h2
        refine ⟨d, rfl, h2.1, fun j oj hj hoj => ?_⟩
        have := List.all_eq_true.1 h2.2 j (List.mem_range.2 hj)
        rw [hoj] at this
        simpa using this
    · intro e he hb
      have := List.all_eq_true.1 h3 e (Array.mem_toList_iff.2 he)
      simpa [hb] using this
    · intro t ht
      have := List.all_eq_true.1 h4 t ht
      simp only [Bool.and_eq_true, decide_eq_true_eq] at this
      refine ⟨this.1, fun j oj hj hoj hd => ?_⟩
      have h5 := List.all_eq_true.1 this.2 j (List.mem_range.2 hj)
      rw [hoj] at h5
      simpa [hd] using h5

/-- How many of the first m have not come up. -/
def unl (listed : Array Bool) : Nat → Nat
  | 0 => 0
  | m + 1 => unl listed m + if listed.getD m true then 0 else 1
theorem unl_set {listed : Array Bool} {i : Nat} (hi : listed.getD i true = false) : ∀ m, unl (listed.setIfInBounds i true) m + (if i < m then 1 else 0) = unl listed m
  | 0 => by simp [unl]
  | m + 1 => by
    have ih := unl_set hi m
    simp only [unl]
    have hsz : i < listed.size := by
      rcases Nat.lt_or_ge i listed.size with h | h
      · exact h
      · simp [Array.getElem?_eq_none h] at hi
    by_cases e : i = m
    · subst e
      have : (listed.setIfInBounds i true).getD i true = true := by simp [Array.getElem?_setIfInBounds, hsz]
      rw [this, hi]
      simp at ih ⊢
      omega
    · rw [getD_set_ne true e]
      have : (i < m + 1) = (i < m) := by rw [eq_iff_iff]; omega
      simp only [this]
      omega
theorem unl_zero {listed : Array Bool} : ∀ m, unl listed m = 0 → ∀ i, i < m → listed.getD i true = true
  | 0, _, i, hi => absurd hi (by omega)
  | m + 1, h, i, hi => by
    simp only [unl] at h
    by_cases e : i = m
    · subst e
      cases hb : listed.getD i true with
      | true => rfl
      | false => rw [hb] at h; simp at h
    · exact unl_zero m (by omega) i (by omega)
theorem unl_pos {listed : Array Bool} : ∀ m, 0 < unl listed m → ∃ i, i < m ∧ listed.getD i true = false ∧ ∀ j, j < i → listed.getD j true = true
  | 0, h => absurd h (by simp [unl])
  | m + 1, h => by
    by_cases h0 : 0 < unl listed m
    · obtain ⟨i, hi, h1, h2⟩ := unl_pos m h0
      exact ⟨i, by omega, h1, h2⟩
    · refine ⟨m, by omega, ?_, unl_zero m (by omega)⟩
      simp only [unl] at h
      cases hb : listed.getD m true with
      | true => rw [hb] at h; simp at h; omega
      | false => rfl

def headArr (m n : Nat) : Array Bool := (List.replicate m true ++ List.replicate (n - m) false).toArray
def tailB (md : Region.Mode) (ops : Array Oper) (m : Nat) : Bool :=
  decide (m ≤ ops.size) && (decide (m = ops.size) || (Region.sinkB md ops m && Region.chainB md ops m)) && Region.seqB md ops (ops.size - m) m (headArr m ops.size)

theorem getD_true_of_false {listed : Array Bool} {i : Nat} (hi : i < listed.size) (h : listed.getD i true = true) : listed.getD i false = true := by
  simp [hi] at h ⊢; exact h

theorem lookK_append (K K' : List (Nat × Pr)) (t : Nat) : lookK (K ++ K') t = (lookK K t).orElse fun _ => lookK K' t := by
  induction K with
  | nil => rfl
  | cons x K ih =>
    obtain ⟨d, p⟩ := x
    rw [List.cons_append]
    by_cases e : d = t
    · subst e
      rw [lookK_same, lookK_same]
      rfl
    · rw [lookK_ne _ e, lookK_ne _ e]
      exact ih
theorem lookK_some {K : List (Nat × Pr)} {t : Nat} {p : Pr} (h : lookK K t = some p) : (t, p) ∈ K := by
  induction K with
  | nil => cases h
  | cons x K ih =>
    obtain ⟨d, q⟩ := x
    by_cases e : d = t
    · subst e
      rw [lookK_same] at h
      injection h with h
      subst h
      simp
    · rw [lookK_ne _ e] at h
      exact List.mem_cons_of_mem _ (ih h)
theorem lookK_none {K : List (Nat × Pr)} {t : Nat} (h : lookK K t = none) : ∀ x ∈ K, x.1 ≠ t := by
  induction K with
  | nil => intro x hx; cases hx
  | cons y K ih =>
    obtain ⟨d, q⟩ := y
    by_cases e : d = t
    · subst e
      rw [lookK_same] at h
      cases h
    · rw [lookK_ne _ e] at h
      intro x hx
      rcases List.mem_cons.1 hx with rfl | hx
      · exact e
      · exact ih h x hx

section
variable {P : Program} {ops : Array Oper} {C : World → Prop} {Q : Exit → Act → World → Prop} {md : Region.Mode} {m sz : Nat} {K0 : List (Nat × Pr)}

/-- What holds on the way. -/
structure Inv (ops : Array Oper) (C : World → Prop) (K0 : List (Nat × Pr)) (m sz : Nat) (Rs : List Pr) (done : Nat → Prop) (a : Act) (w : World) : Prop where
  cls : C w
  size : a.tmps.size = sz
  defers : a.defers = []
  rest : ∀ t, (∀ j oj, j < m → ops[j]? = some oj → oj.dst ≠ some t) → ∀ p, lookK K0 t = some p → okAt p a t w
  has : ∀ j oj d R, j < m → done j → ops[j]? = some oj → oj.dst = some d → Rs[j]? = some R → okAt R a d w

theorem okAt.step {p : Pr} {a : Act} {t d : Nat} {w w' : World} {v : Value} (h : okAt p a t w) (he : Ext w w') (hne : d ≠ t) : okAt p (a.put (some d) v) t w' := by
  obtain ⟨u, hu, hk⟩ := h
  exact ⟨u, by simp [Act.put, Array.getElem?_setIfInBounds, hne, hu], Pr.up_ok he hk⟩
theorem okAt.put {p : Pr} {a : Act} {d : Nat} {w : World} {v : Value} (hd : d < a.tmps.size) (h : p.ok v w) : okAt p (a.put (some d) v) d w :=
  ⟨v, by simp [Act.put, Array.getElem?_setIfInBounds, hd], h⟩

theorem Inv.step {Rs : List Pr} {done : Nat → Prop} {a : Act} {w w' : World} {i : Nat} {o : Oper} {d : Nat} {R : Pr} {v : Value} (h : Inv ops C K0 m sz Rs done a w)
    (hC : UpC C) (he : Ext w w') (hi : i < m) (ho : ops[i]? = some o) (hd : o.dst = some d) (hdl : d < sz) (hR : Rs[i]? = some R) (hv : R.ok v w')
    (hdist : ∀ j oj, j < m → j ≠ i → ops[j]? = some oj → oj.dst ≠ some d) : Inv ops C K0 m sz Rs (fun j => done j ∨ j = i) (a.put o.dst v) w' := by
  rw [hd]
  have hsz : d < a.tmps.size := by rw [h.size]; exact hdl
  refine ⟨hC _ _ h.cls he, by simpa [Act.put] using h.size, h.defers, fun t ht p hp => ?_, fun j oj dj Rj hj hdone hoj hdj hRj => ?_⟩
  · have hne : d ≠ t := fun e => ht i o hi ho (e ▸ hd)
    exact (h.rest t ht p hp).step he hne
  · by_cases e : j = i
    · subst e
      have e1 : oj = o := Option.some.inj (hoj.symm.trans ho)
      subst e1
      have e2 : dj = d := Option.some.inj (hdj.symm.trans hd)
      subst e2
      have e3 : Rj = R := Option.some.inj (hRj.symm.trans hR)
      subst e3
      exact okAt.put hsz hv
    · have hne : d ≠ dj := fun e' => hdist j oj hj e hoj (e' ▸ hdj)
      exact (h.has j oj dj Rj hj (hdone.resolve_right e) hoj hdj hRj).step he hne

theorem dst_zip {l : List Oper} {Rs : List Pr} (hl : Rs.length = l.length) {x : Nat × Pr} {i : Nat} (h : x ∈ (zipK l Rs).take i) :
    ∃ j o, j < i ∧ l[j]? = some o ∧ x.1 = o.dst.getD 0 ∧ Rs[j]? = some x.2 := by
  unfold zipK at h
  obtain ⟨j, hj, hx⟩ := List.mem_iff_getElem.1 h
  simp only [List.length_take, List.length_zip, List.length_map] at hj
  refine ⟨j, l[j]'(by omega), by omega, List.getElem?_eq_getElem _, ?_, ?_⟩
  · rw [← hx]; simp
  · rw [← hx]; simp

theorem mem_zip {l : List Oper} {Rs : List Pr} (hl : Rs.length = l.length) {j i : Nat} {o : Oper} {d : Nat} (hj : j < i) (ho : l[j]? = some o) (hd : o.dst = some d) :
    ∃ R, (d, R) ∈ ((zipK l Rs).take i).reverse := by
  have hjl : j < l.length := (List.getElem?_eq_some_iff.1 ho).1
  refine ⟨Rs[j]'(by omega), List.mem_reverse.2 (List.mem_iff_getElem.2 ⟨j, by simp [zipK]; omega, ?_⟩)⟩
  have hoj' : l[j] = o := by
    rw [List.getElem?_eq_getElem hjl] at ho
    exact Option.some.inj ho
  simp [zipK, hoj', hd]

/-- The slots that an operation looks at are as the walk knows them. -/
theorem Inv.looks {Rs : List Pr} {done : Nat → Prop} {a : Act} {w : World} {i : Nat} {o : Oper} {l : List Oper} (h : Inv ops C K0 m sz Rs done a w) (hl : ∀ j, j < m → l[j]? = ops[j]?) (hlen : l.length = m)
    (hRl : Rs.length = l.length) (hi : i < m) (hH : HeadAt md ops m sz i o) (hall : ∀ j oj, j < m → ops[j]? = some oj → HeadAt md ops m sz j oj)
    (hdone : ∀ j, Region.waitsFor md ops i j = true → done j) :
    ∀ t ∈ o.looksAt ops, ∀ p, lookK (((zipK l Rs).take i).reverse ++ K0) t = some p → okAt p a t w := by
  intro t ht p hp
  obtain ⟨hts, hlk⟩ := hH.looks t ht
  rw [lookK_append] at hp
  cases hk : lookK ((zipK l Rs).take i).reverse t with
  | some q =>
    rw [hk] at hp
    have : q = p := by simpa using hp
    subst this
    have hm := List.mem_reverse.1 (lookK_some hk)
    obtain ⟨j, oj, hj, hoj, hx, hR⟩ := dst_zip hRl hm
    have hojm : ops[j]? = some oj := by rw [← hl j (by omega)]; exact hoj
    obtain ⟨d, hd, _⟩ := (hall j oj (by omega) hojm).dst
    have hdt : oj.dst = some t := by rw [hd]; simp only [hd, Option.getD_some] at hx; rw [hx]
    exact h.has j oj t q (by omega) (hdone j (hlk j oj (by omega) hojm hdt).2) hojm hdt hR
  | none =>
    rw [hk] at hp
    refine h.rest t (fun j oj hj hoj hd => ?_) p (by simpa using hp)
    have hji := (hlk j oj hj hoj hd).1
    obtain ⟨R, hR⟩ := mem_zip (l := l) hRl hji (by rw [hl j hj]; exact hoj) hd
    exact lookK_none hk _ hR rfl

theorem Inv.fin_ {Rs : List Pr} {done : Nat → Prop} {a : Act} {w : World} {l : List Oper} (h : Inv ops C K0 m sz Rs done a w) (hl : ∀ j, j < m → l[j]? = ops[j]?) (hlen : l.length = m)
    (hRl : Rs.length = l.length) (hall : ∀ j oj, j < m → ops[j]? = some oj → HeadAt md ops m sz j oj) (hdone : ∀ j, j < m → done j) :
    St sz ((zipK l Rs).reverse ++ K0) C a w := by
  refine ⟨h.size, h.defers, fun t p hp => ?_, h.cls⟩
  have htake : (zipK l Rs).take m = zipK l Rs := List.take_of_length_le (by simp [zipK]; omega)
  rw [lookK_append] at hp
  cases hk : lookK (zipK l Rs).reverse t with
  | some q =>
    rw [hk] at hp
    have : q = p := by simpa using hp
    subst this
    have hx' : (t, q) ∈ (zipK l Rs).take m := by
      rw [htake]
      exact List.mem_reverse.1 (lookK_some hk)
    obtain ⟨j, oj, hj, hoj, hx1, hR⟩ := dst_zip hRl hx'
    have hojm : ops[j]? = some oj := by rw [← hl j hj]; exact hoj
    obtain ⟨d, hd, _⟩ := (hall j oj hj hojm).dst
    have e : t = d := by simp only [hd, Option.getD_some] at hx1; exact hx1
    subst e
    exact h.has j oj t q hj (hdone j hj) hojm hd hR
  | none =>
    rw [hk] at hp
    refine h.rest t (fun j oj hj hoj hd => ?_) p (by simpa using hp)
    obtain ⟨R, hR⟩ := mem_zip (l := l) hRl hj (by rw [hl j hj]; exact hoj) hd
    rw [htake] at hR
    exact lookK_none hk _ hR rfl

theorem ob_step {a : Act} {w : World} {o : Oper} {K : List (Nat × Pr)} {R : Pr} {N : Act → World → Prop} (hob : Ob P ops C K o R) (hc : C w) (hlk : ∀ t ∈ o.looksAt ops, ∀ p, lookK K t = some p → okAt p a t w)
    (hN : ∀ v w', Ext w w' → R.ok v w' → N (a.put o.dst v) w') : if Region.wanted o (yielded ops a.tmps) = true then o.wp P a w N Q ∨ (o.asks P a w ∧ LetsOut Q) else N (a.put o.dst undef) w := by
  have h1 := hob a w hc hlk
  split
  · rename_i hw
    rw [if_pos hw] at h1
    exact .inl (h1.wp fun v w' ⟨he, hv⟩ => hN v w' he hv)
  · rename_i hw
    rw [if_neg hw] at h1
    exact hN undef w (Ext.refl _) h1

theorem all_head (hB : headB md ops m sz = true) : ∀ j oj, j < m → ops[j]? = some oj → HeadAt md ops m sz j oj := fun j oj hj hoj => by
  obtain ⟨o, ho, hH⟩ := headB_spec hB hj
  have : o = oj := Option.some.inj (ho.symm.trans hoj)
  subst this
  exact hH
theorem distinct (hB : headB md ops m sz = true) {i : Nat} {o : Oper} {d : Nat} (hi : i < m) (ho : ops[i]? = some o) (hd : o.dst = some d) : ∀ j oj, j < m → j ≠ i → ops[j]? = some oj → oj.dst ≠ some d := by
  intro j oj hj hne hoj he
  rcases Nat.lt_or_gt_of_ne hne with h | h
  · obtain ⟨d', hd', _, hx⟩ := (all_head hB i o hi ho).dst
    have : d' = d := Option.some.inj (hd'.symm.trans hd)
    subst this
    exact hx j oj h hoj he
  · obtain ⟨d', hd', _, hx⟩ := (all_head hB j oj hj hoj).dst
    have : d' = d := Option.some.inj (hd'.symm.trans he)
    subst this
    exact hx i o h ho hd

/-- **THE RULE FOR A REGION THAT DRAWS ITS ORDER**: its first operations by the walk; the others, which wait for them, in their order. -/
theorem region_draw {id : Nat} {N : Nat} {l tail : List Oper} (hm : P.follows .mixedOrders = true) (hB : headB .any (l ++ tail).toArray l.length N = true) (hT : tailB .any (l ++ tail).toArray l.length = true)
    (hC : UpC C) (h : walk P (l ++ tail).toArray C (fun K => Sq P (l ++ tail).toArray N C Q K tail) K0 l) {a0 : Act} {w : World} (hst : St N K0 C a0 w) : (Code.region id (l ++ tail).toArray true).wp P Q a0 w := by
  generalize hops' : (l ++ tail).toArray = ops at *
  have hops : ops.toList = l ++ tail := by rw [← hops']
  clear hops'
  refine wp_region_any hm ?_
  obtain ⟨Rs, hRl, hF, hobs⟩ := h
  have hsize : ops.size = l.length + tail.length := by
    rw [← Array.length_toList, hops, List.length_append]
  have hl : ∀ j, j < l.length → l[j]? = ops[j]? := fun j hj => by
    rw [← Array.getElem?_toList, hops, List.getElem?_append_left hj]
  have hall := all_head hB
  simp only [tailB, Bool.and_eq_true, decide_eq_true_eq, Bool.or_eq_true] at hT
  obtain ⟨⟨hle, hwait⟩, hseq⟩ := hT
  have key : ∀ (f : Nat) (listed : Array Bool) (a : Act) (w : World), HeadInv .any ops l.length listed → unl listed l.length = f → Inv ops C K0 l.length N Rs (fun j => listed.getD j false = true) a w →
      wpAny P .any ops Q (f + tail.length) listed a w := by
    intro f
    induction f with
    | zero =>
      intro listed a w hinv hu hI
      have hlist := unl_zero _ hu
      have hlisted : listed = headArr l.length ops.size := by
        apply Array.ext_getElem?
        intro i
        by_cases hi : i < ops.size
        · by_cases hil : i < l.length
          · have h1 := hlist i hil
            have : i < listed.size := by rw [hinv.size]; exact hi
            simp [this] at h1
            simp [headArr, List.getElem?_append, hil, this, h1]
          · have h1 := hinv.tail i (by omega) hi
            have : i < listed.size := by rw [hinv.size]; exact hi
            simp [this] at h1
            simp [headArr, List.getElem?_append, hil, this, h1, List.getElem?_replicate]
            omega
        · rw [Array.getElem?_eq_none (by rw [hinv.size]; omega), Array.getElem?_eq_none (by simp [headArr]; omega)]
      rw [hlisted, Nat.zero_add]
      refine wpAny_of_seq tail l.length _ a w (fun j => ?_) (by rw [← show ops.size - l.length = tail.length by omega]; exact hseq) ?_
      · rw [← Array.getElem?_toList, hops, List.getElem?_append_right (by omega)]
        simp
      · exact hF a w (hI.fin_ hl rfl hRl hall (fun j hj => getD_true_of_false (by rw [hinv.size]; omega) (hlist j hj)))
    | succ f ih =>
      intro listed a w hinv hu hI
      obtain ⟨i0, hi0, hun0, hbefore⟩ := unl_pos l.length (listed := listed) (by omega)
      have hready : i0 ∈ Region.ready .any ops listed := by
        obtain ⟨o, ho, hH⟩ := headB_spec hB hi0
        exact mem_ready.2 ⟨hun0, o, ho, fun e he hb => by
          have hlt := hH.back e he hb
          exact getD_true_of_false (by rw [hinv.size]; omega) (hbefore e.on hlt)⟩
      rw [show f + 1 + tail.length = (f + tail.length) + 1 by omega]
      refine ⟨fun h0 => (by rw [h0] at hready; cases hready), fun i hi => ?_⟩
      have hil : i < l.length := by
        obtain ⟨_, oi, hoi, _⟩ := mem_ready.1 hi
        have hisz : i < ops.size := (Array.getElem?_eq_some_iff.1 hoi).1
        rcases Nat.lt_or_ge i l.length with h | h
        · exact h
        · rcases hwait with h' | ⟨hs, hc⟩
          · omega
          · exact absurd hi (tail_waits hs hc (by omega) hinv _ i0 rfl hi0 hun0 i h)
      obtain ⟨hiun, oi, hoi, hwaits⟩ := mem_ready.1 hi
      have hH := hall i oi hil hoi
      obtain ⟨d, hd, hdl, _⟩ := hH.dst
      obtain ⟨R, hR, hob⟩ := hobs i oi (by rw [hl i hil]; exact hoi)
      unfold wpOp
      simp only [hoi]
      refine ob_step hob hI.cls (hI.looks hl rfl hRl hil hH hall fun j hj => ?_) fun v w' he hv => ?_
      · obtain ⟨o', ho', e, hem, hb, hon⟩ := Region.waitsFor_spec hj
        have : o' = oi := Option.some.inj (ho'.symm.trans hoi)
        subst this
        rw [← hon]
        exact hwaits e hem hb
      · refine ih _ _ _ (hinv.set hi hil) ?_ ?_
        · have := unl_set hiun l.length
          rw [if_pos hil] at this
          omega
        · have hstep := hI.step hC he hil hoi hd hdl hR hv (distinct hB hil hoi hd)
          refine ⟨hstep.cls, hstep.size, hstep.defers, hstep.rest, fun j oj dj Rj hj hdone hoj hdj hRj => hstep.has j oj dj Rj hj ?_ hoj hdj hRj⟩
          by_cases e : j = i
          · exact .inr e
          · rw [getD_set_ne false (Ne.symm e)] at hdone
            exact .inl hdone
  have hdrew : Ext w w.drew := (Ext.refl w).drew
  have hstart := key (unl (Array.replicate ops.size false) l.length) (Array.replicate ops.size false) a0 w.drew
    ⟨by simp, (fun j oj _ h => by rw [getD_replicate_false] at h; cases h), (fun t _ ht => by simp [ht])⟩ rfl
    ⟨hC _ _ hst.cls hdrew, hst.size, hst.defers, (fun t _ p hp => let ⟨v, hv, hk⟩ := hst.slots t p hp; ⟨v, hv, Pr.up_ok hdrew hk⟩), (fun j oj dj Rj _ h => by rw [getD_replicate_false] at h; cases h)⟩
  have hunl : ∀ k, k ≤ ops.size → unl (Array.replicate ops.size false) k = k := by
    intro k
    induction k with
    | zero => intro _; rfl
    | succ k ih =>
      intro hk
      simp only [unl]
      rw [ih (by omega)]
      have : (Array.replicate ops.size false).getD k true = false := by simp [show k < ops.size by omega]
      rw [this]
      simp
  rw [hunl l.length (by omega), ← hsize] at hstart
  exact hstart

end

/-! ### One step, in both readings -/
section
variable {P : Program} {ops : Array Oper} {C : World → Prop} {Q : Exit → Act → World → Prop} {N : Nat}

/-- 'M K l': the operations l go through from the state K. -/
structure Stepper (P : Program) (ops : Array Oper) (C : World → Prop) (N : Nat) (M : List (Nat × Pr) → List Oper → Prop) : Prop where
  step : ∀ {K : List (Nat × Pr)} {o : Oper} {rest : List Oper} {d : Nat} {R : Pr}, o.dst = some d → Nat.blt d N = true → Ob P ops C K o R → M ((d, R) :: K) rest → M K (o :: rest)
  congr : ∀ {K K' : List (Nat × Pr)} {l : List Oper}, (∀ t, lookK K t = lookK K' t) → M K l → M K' l

theorem St.congr {K K' : List (Nat × Pr)} {a : Act} {w : World} (hK : ∀ t, lookK K t = lookK K' t) (h : St N K C a w) : St N K' C a w :=
  ⟨h.size, h.defers, fun t p hp => h.slots t p (by rw [hK]; exact hp), h.cls⟩

theorem walk_stepper {Fin : List (Nat × Pr) → Prop} (hF : ∀ K K', (∀ t, lookK K t = lookK K' t) → Fin K → Fin K') : Stepper P ops C N (walk P ops C Fin) where
  step := by
    intro K o rest d R hd _ hob ⟨Rs, hl, hF, hall⟩
    have hz : zipK (o :: rest) (R :: Rs) = (d, R) :: zipK rest Rs := by simp [zipK, hd]
    refine ⟨R :: Rs, by simp [hl], by rw [hz]; simpa using hF, fun i o' hi => ?_⟩
    cases i with
    | zero =>
      simp at hi
      subst hi
      exact ⟨R, rfl, by simpa using hob⟩
    | succ i =>
      obtain ⟨R', h1, h2⟩ := hall i o' (by simpa using hi)
      exact ⟨R', by simpa using h1, by rw [hz]; simpa using h2⟩
  congr := by
    intro K K' l hK ⟨Rs, hl, hF', hall⟩
    have hap : ∀ (L : List (Nat × Pr)) (t : Nat), lookK (L ++ K) t = lookK (L ++ K') t := fun L t => by rw [lookK_append, lookK_append, hK]
    refine ⟨Rs, hl, hF _ _ (hap _) hF', fun i o hi => ?_⟩
    obtain ⟨R, h1, h2⟩ := hall i o hi
    exact ⟨R, h1, h2.congr (hap _)⟩

theorem St.step {K : List (Nat × Pr)} {a : Act} {w w' : World} {d : Nat} {R : Pr} {v : Value} (hC : UpC C) (h : St N K C a w) (he : Ext w w') (hd : d < N) (hv : R.ok v w') : St N ((d, R) :: K) C (a.put (some d) v) w' := by
  refine ⟨by simpa [Act.put] using h.size, h.defers, fun t p hp => ?_, hC _ _ h.cls he⟩
  by_cases e : d = t
  · subst e
    rw [lookK_same] at hp
    injection hp with hp
    subst hp
    exact okAt.put (by rw [h.size]; exact hd) hv
  · rw [lookK_ne _ e] at hp
    exact (h.slots t p hp).step he e

theorem sq_stepper (hC : UpC C) : Stepper P ops C N (Sq P ops N C Q) where
  step := by
    intro K o rest d R hd hN hob hrest a w hst
    have hN' : d < N := Nat.le_of_ble_eq_true hN
    unfold wpList
    have h1 := ob_step (P := P) (Q := Q) (N := wpList P ops Q rest) hob hst.cls (fun t _ p hp => hst.slots t p hp) (fun v w' he hv => by
      rw [hd]
      exact hrest _ _ (hst.step hC he hN' hv))
    exact h1
  congr := by
    intro K K' l hK h a w hst
    exact h a w (hst.congr fun t => (hK t).symm)

/-! ### Code -/
def Hc (P : Program) (N : Nat) (K : List (Nat × Pr)) (C : World → Prop) (c : Code) (Q : Exit → Act → World → Prop) : Prop := ∀ a w, St N K C a w → c.wp P Q a w
def Go_ (N : Nat) (K : List (Nat × Pr)) (C : World → Prop) (T : Act → World → Prop) : Prop := ∀ a w, St N K C a w → T a w

variable {K : List (Nat × Pr)}
theorem H_seq {x y : Code} (h : Hc P N K C x (Exit.then (y.wp P Q) Q)) : Hc P N K C (.seq x y) Q := fun a w hst => wp_seq (h a w hst)
theorem H_skip (h : Go_ N K C (Q .normal)) : Hc P N K C .skip Q := fun a w hst => wp_skip (h a w hst)
theorem H_ret (h : Go_ N K C (Q .ret)) : Hc P N K C .ret Q := fun a w hst => wp_ret (h a w hst)
theorem H_exit {id : Nat} (h : Go_ N K C (Q (.exit id))) : Hc P N K C (.exit id) Q := fun a w hst => wp_exit (h a w hst)
theorem H_block {id : Nat} {c : Code} (h : Hc P N K C c (Exit.inBlock id Q)) : Hc P N K C (.block id c) Q := fun a w hst => wp_block (h a w hst)
theorem H_reg {id : Nat} {l : List Oper} (h : Sq P l.toArray N C Q K l) : Hc P N K C (.region id l.toArray false) Q := fun a w hst => wp_region_lit (h a w hst)
theorem Sq_nil (h : Go_ N K C (Q .normal)) : Sq P ops N C Q K [] := fun a w hst => wpList_nil (h a w hst)
theorem walk_nil {Fin : List (Nat × Pr) → Prop} (h : Fin K) : walk P ops C Fin K [] := ⟨[], rfl, by simpa [zipK] using h, fun i o hi => by simp at hi⟩
theorem sq_fin_congr {l : List Oper} : ∀ K K', (∀ t, lookK K t = lookK K' t) → Sq P ops N C Q K l → Sq P ops N C Q K' l := fun _ _ hK h a w hst => h a w (hst.congr fun t => (hK t).symm)
/-- What follows a piece of code. -/
theorem G_then {y : Code} (h : Hc P N K C y Q) : Go_ N K C ((Exit.then (y.wp P Q) Q) .normal) := h
theorem H_weaken {K' : List (Nat × Pr)} {C' : World → Prop} {c : Code} (hs : ∀ a w, St N K C a w → St N K' C' a w) (h : Hc P N K' C' c Q) : Hc P N K C c Q := fun a w hst => h a w (hs a w hst)

theorem H_cond {c : Operand} {x y : Code} (b : Bool) (hb : kn K c = some (.inl (.bool b))) (h1 : b = true → Hc P N K C x Q) (h0 : b = false → Hc P N K C y Q) : Hc P N K C (.cond c x y) Q := by
  intro a w hst
  have he : a.eval c = .bool b := by
    cases c with
    | tmp t =>
      obtain ⟨v, hv, hk⟩ := hst.slots t _ hb
      have : v = .bool b := hk
      subst this
      simp [Act.eval, hv]
    | const v => simp only [kn, Option.some.injEq, Sum.inl.injEq] at hb; exact hb
    | global g => simp [kn] at hb
    | func f => simp [kn] at hb
  cases b with
  | true => exact wp_cond_true he (h1 rfl a w hst)
  | false => exact wp_cond_false he (h0 rfl a w hst)

theorem H_loop {c : Code} {σ : Type} (I : σ → Prop) (Kx : σ → List (Nat × Pr)) (Cx : σ → World → Prop) (μ : σ → Nat) (x0 : σ) (hI : I x0) (h0 : ∀ a w, St N K C a w → St N (Kx x0) (Cx x0) a w)
    (hb : ∀ x, I x → Hc P N (Kx x) (Cx x) c (Exit.then (fun a w => ∃ x', I x' ∧ μ x' < μ x ∧ St N (Kx x') (Cx x') a w) Q)) : Hc P N K C (.loop c) Q := by
  intro a w hst b k cs
  have key : ∀ (n : Nat) (x : σ) (a : Act) (w : World), μ x = n → I x → St N (Kx x) (Cx x) a w →
      ∃ e a' w', Q e a' w' ∧ Arrives P (lone (b.at a (.code c :: .inLoop c :: k)) cs w) b k cs e a' w' := by
    intro n
    induction n using Nat.strongRecOn with
    | _ n ih =>
      intro x a w hn hix hx
      obtain ⟨e, a₁, w₁, hq, harr⟩ := hb x hix a w hx b (.inLoop c :: k) cs
      cases e with
      | normal =>
        obtain ⟨x', hi', hlt, hx'⟩ := hq
        obtain ⟨e₂, a₂, w₂, hq₂, harr₂⟩ := ih (μ x') (hn ▸ hlt) x' a₁ w₁ rfl hi' hx'
        exact ⟨e₂, a₂, w₂, hq₂, .of_steps (Steps.trans harr (.one step_inLoop)) harr₂⟩
      | exit id => exact ⟨_, a₁, w₁, hq, .pass (x := .inLoop c) rfl (fun _ _ => .inl (by simp)) harr⟩
      | goto l => exact ⟨_, a₁, w₁, hq, .pass (x := .inLoop c) rfl (fun _ _ => .inl (by simp)) harr⟩
      | ret => exact ⟨_, a₁, w₁, hq, .pass (x := .inLoop c) rfl (fun _ _ => .inl (by simp)) harr⟩
      | panic ch => exact ⟨_, a₁, w₁, hq, .pass (x := .inLoop c) rfl (fun _ _ => .inl (by simp)) harr⟩
      | outgrown => exact ⟨_, a₁, w₁, hq, .pass (x := .inLoop c) rfl (fun _ _ => .inl (by simp)) harr⟩
  obtain ⟨e, a', w', hq, harr⟩ := key _ x0 a w rfl hI (h0 a w hst)
  exact ⟨e, a', w', hq, .of_steps (.one step_loop) harr⟩

theorem H_condT {c : Operand} {x y : Code} (hb : kn K c = some (.inl (.bool true))) (h1 : Hc P N K C x Q) : Hc P N K C (.cond c x y) Q := H_cond true hb (fun _ => h1) (fun h => by cases h)
theorem H_condF {c : Operand} {x y : Code} (hb : kn K c = some (.inl (.bool false))) (h1 : Hc P N K C y Q) : Hc P N K C (.cond c x y) Q := H_cond false hb (fun h => by cases h) (fun _ => h1)

/-! ### Where a piece of code ends -/
theorem G_exit_then {X : Act → World → Prop} {id : Nat} (h : Go_ N K C (Q (.exit id))) : Go_ N K C (Exit.then X Q (.exit id)) := fun a w hst => h a w hst
theorem G_ret_then {X : Act → World → Prop} (h : Go_ N K C (Q .ret)) : Go_ N K C (Exit.then X Q .ret) := fun a w hst => h a w hst
theorem G_ret_block {id : Nat} (h : Go_ N K C (Q .ret)) : Go_ N K C (Exit.inBlock id Q .ret) := fun a w hst => h a w hst
theorem G_normal_block {id : Nat} (h : Go_ N K C (Q .normal)) : Go_ N K C (Exit.inBlock id Q .normal) := fun a w hst => h a w hst
theorem G_exit_here {id : Nat} (h : Go_ N K C (Q .normal)) : Go_ N K C (Exit.inBlock id Q (.exit id)) := fun a w hst => by simpa [Exit.inBlock] using h a w hst
/-- What is known of the slots of K' follows from what is known of those of K. -/
def KSub (K : List (Nat × Pr)) (C : World → Prop) : List (Nat × Pr) → Prop
  | [] => True
  | (t, p') :: K' => (∃ p, lookK K t = some p ∧ ∀ v w, C w → p.ok v w → p'.ok v w) ∧ KSub K C K'
theorem KSub.spec {K : List (Nat × Pr)} {C : World → Prop} : ∀ (K' : List (Nat × Pr)), KSub K C K' → ∀ t p', lookK K' t = some p' → ∃ p, lookK K t = some p ∧ ∀ v w, C w → p.ok v w → p'.ok v w
  | [], _, t, p', h => by cases h
  | (s, q) :: K', ⟨h1, h2⟩, t, p', h => by
    by_cases e : s = t
    · subst e
      rw [lookK_same] at h
      injection h with h
      subst h
      exact h1
    · rw [lookK_ne _ e] at h
      exact KSub.spec K' h2 t p' h
theorem St.sub {K' : List (Nat × Pr)} {C' : World → Prop} {a : Act} {w : World} (hK : KSub K C K') (hC : ∀ w, C w → C' w) (h : St N K C a w) : St N K' C' a w :=
  ⟨h.size, h.defers, fun t p' hp => by
    obtain ⟨p, h1, h2⟩ := hK.spec K' t p' hp
    obtain ⟨v, hv, hk⟩ := h.slots t p h1
    exact ⟨v, hv, h2 v w h.cls hk⟩, hC w h.cls⟩
/-- The loop goes on, from the state x'. -/
theorem G_again {σ : Type} {I : σ → Prop} {Kx : σ → List (Nat × Pr)} {Cx : σ → World → Prop} {μ : σ → Nat} {x : σ} (x' : σ) (hI : I x') (hμ : μ x' < μ x) (hK : KSub K C (Kx x')) (hC : ∀ w, C w → Cx x' w) :
    Go_ N K C (Exit.then (fun a w => ∃ x', I x' ∧ μ x' < μ x ∧ St N (Kx x') (Cx x') a w) Q .normal) := fun _ _ hst => ⟨x', hI, hμ, hst.sub hK hC⟩
/-- Forget. -/
theorem H_keep (K' : List (Nat × Pr)) {c : Code} (hK : KSub K C K') (h : Hc P N K' C c Q) : Hc P N K C c Q := fun a w hst => h a w (hst.sub hK fun _ h => h)

/-- The operations of a region that draws: some of them by the walk, the others, which wait for them, in their order. -/
def Wk (P : Program) (ops : Array Oper) (N : Nat) (C : World → Prop) (Q : Exit → Act → World → Prop) (K : List (Nat × Pr)) (l : List Oper) : Prop :=
  ∃ l1 l2, l = l1 ++ l2 ∧ walk P ops C (fun K => Sq P ops N C Q K l2) K l1 ∧ headB .any ops (ops.size - l2.length) N = true ∧ tailB .any ops (ops.size - l2.length) = true
theorem wk_stepper : Stepper P ops C N (Wk P ops N C Q) where
  step := by
    intro K o rest d R hd hN hob ⟨l1, l2, hl, hw, h1, h2⟩
    exact ⟨o :: l1, l2, by rw [hl]; rfl, (walk_stepper sq_fin_congr).step hd hN hob hw, h1, h2⟩
  congr := by
    intro K K' l hK ⟨l1, l2, hl, hw, h1, h2⟩
    exact ⟨l1, l2, hl, (walk_stepper (N := N) sq_fin_congr).congr hK hw, h1, h2⟩
theorem Wk_switch {l : List Oper} (h1 : headB .any ops (ops.size - l.length) N = true) (h2 : tailB .any ops (ops.size - l.length) = true) (h : Sq P ops N C Q K l) : Wk P ops N C Q K l :=
  ⟨[], l, rfl, walk_nil h, h1, h2⟩
theorem H_draw' {id : Nat} {l : List Oper} (hm : P.follows .mixedOrders = true) (hC : UpC C) (h : Wk P l.toArray N C Q K l) : Hc P N K C (.region id l.toArray true) Q := fun a w hst => by
  obtain ⟨l1, l2, hl, hw, h1, h2⟩ := h
  subst hl
  have e : (l1 ++ l2).toArray.size - l2.length = l1.length := by simp
  rw [e] at h1 h2
  exact region_draw hm h1 h2 hC hw hst
theorem Wk_end (h1 : headB .any ops (ops.size - 0) N = true) (h2 : tailB .any ops (ops.size - 0) = true) (h : Go_ N K C (Q .normal)) : Wk P ops N C Q K [] := Wk_switch (l := []) h1 h2 (Sq_nil h)
section
variable {rest : List Oper} {op : Op} {ty : TypeId} {pos : String} {af : Array Edge} {g : Option (Nat × Bool)} {d : Nat}
theorem Wk_assign {x : Operand} (h1 : headB .any ops (ops.size - (rest.length + 1)) N = true) (h2 : tailB .any ops (ops.size - (rest.length + 1)) = true) (h : Sq P ops N C Q K (⟨some d, .assign x, ty, pos, af, g⟩ :: rest)) :
    Wk P ops N C Q K (⟨some d, .assign x, ty, pos, af, g⟩ :: rest) := Wk_switch h1 h2 h
theorem Wk_none (h1 : headB .any ops (ops.size - (rest.length + 1)) N = true) (h2 : tailB .any ops (ops.size - (rest.length + 1)) = true) (h : Sq P ops N C Q K (⟨none, op, ty, pos, af, g⟩ :: rest)) :
    Wk P ops N C Q K (⟨none, op, ty, pos, af, g⟩ :: rest) := Wk_switch h1 h2 h
end

/-- A goal that waits for its turn. -/
def Wt (_ : Nat) (p : Prop) : Prop := p
theorem Wt.un {p : Prop} (n : Nat) (h : Wt n p) : p := h
theorem Wt.out {p : Prop} (n : Nat) (h : p) : Wt n p := h
theorem G_hold {X : Act → World → Prop} (n : Nat) (h : Wt n (Go_ N K C (Exit.then X Q .normal))) : Go_ N K C (Exit.then X Q .normal) := h
/-- To show it by hand. -/
theorem Go_.of {T : Act → World → Prop} (h : ∀ a w, St N K C a w → T a w) : Go_ N K C T := h
theorem Hc.of {c : Code} (h : ∀ a w, St N K C a w → c.wp P Q a w) : Hc P N K C c Q := h
theorem Hc.out {c : Code} (h : Hc P N K C c Q) : ∀ a w, St N K C a w → c.wp P Q a w := h
theorem upC_ext (w : World) : UpC (Ext w) := fun _ _ h k => h.trans k

end
attribute [irreducible] Hc Go_ Sq walk Wk Wt
end Go.Proofs.YtanlaggnhocjhaaGreat

/-
  Functions that change what their caller owns: contracts from own memory to own memory; functions as values that are known; a slice of one's own that is sorted in place.
-/
import Derived.Test.YtanlaggnhocjhaaGreatVals
import Derived.Test.YtanlaggnhocjhaaGreatDrw
namespace Go.Proofs.YtanlaggnhocjhaaGreat
set_option linter.unusedSimpArgs false
set_option linter.unusedVariables false
open Go.RowKit

/-! ### The list of what is owned -/
theorem set_same' {α : Type _} {L : List α} {m : Nat} {o : α} (h : L[m]? = some o) : L.set m o = L := by
  apply List.ext_getElem?
  intro i
  rw [List.getElem?_set]
  split
  · rename_i e
    subst e
    obtain ⟨h1, h2⟩ := List.getElem?_eq_some_iff.1 h
    rw [if_pos h1, ← h2, List.getElem?_eq_getElem h1]
  · rfl
/-- The order of what is owned does not count. -/
theorem Sep.perm {w0 w : World} {L L' : List Osl} (hp : L.Perm L') (h : Sep w0 L w) : Sep w0 L' w := by
  have key : ∀ {L L' : List Osl}, L.Perm L' → ∀ Bs : BL, Bs.length = L.length → ∃ Bs', Bs.Perm Bs' ∧ Bs'.length = L'.length ∧ (FctL L Bs w → FctL L' Bs' w) := by
    intro L L' hp
    induction hp with
    | nil => exact fun Bs hl => ⟨Bs, .refl _, hl, id⟩
    | cons o hp ih =>
      intro Bs hl
      cases Bs with
      | nil => simp at hl
      | cons x Bs =>
        obtain ⟨Bs', h1, h2, h3⟩ := ih Bs (by simpa using hl)
        refine ⟨x :: Bs', h1.cons x, by simp [h2], fun hf m o' x' hm hx => ?_⟩
        cases m with
        | zero => exact hf 0 o' x' (by simpa using hm) (by simpa using hx)
        | succ m => exact h3 (fun m o x h1 h2 => hf (m + 1) o x (by simpa using h1) (by simpa using h2)) m o' x' (by simpa using hm) (by simpa using hx)
    | swap o o' L =>
      intro Bs hl
      match Bs, hl with
      | x :: y :: Bs, hl =>
        refine ⟨y :: x :: Bs, .swap _ _ _, by simpa using hl, fun hf m o'' x' hm hx => ?_⟩
        match m with
        | 0 => exact hf 1 _ _ (by simpa using hm) (by simpa using hx)
        | 1 => exact hf 0 _ _ (by simpa using hm) (by simpa using hx)
        | m + 2 => exact hf (m + 2) _ _ (by simpa using hm) (by simpa using hx)
    | trans _ _ ih1 ih2 =>
      intro Bs hl
      obtain ⟨Bs1, h1, h2, h3⟩ := ih1 Bs hl
      obtain ⟨Bs2, h4, h5, h6⟩ := ih2 Bs1 h2
      exact ⟨Bs2, h1.trans h4, h5, fun hf => h6 (h3 hf)⟩
  unfold Sep at h ⊢
  obtain ⟨Bs, hl, hc⟩ := h
  obtain ⟨Bs', h1, h2, h3⟩ := key hp Bs hl
  refine ⟨Bs', h2, hc.ext, ((h1.filterMap _).nodup_iff).1 hc.nd, fun g hg => hc.lo g ((h1.filterMap _).mem_iff.2 hg), fun x hx => hc.blk x (h1.mem_iff.2 hx), h3 hc.fct⟩

/-! ### Contracts of functions that change what their caller owns -/
def PostX {σ : Type} (C' : σ → World → Prop) (R : σ → Pr) : Ending → World → Prop := fun e w' => ∃ v, e = .returned v ∧ ∃ y, C' y w' ∧ (R y).ok v w'
def CTX (P : Program) (f : FuncId) (C : World → Prop) (ps : List Pr) {σ : Type} (C' : σ → World → Prop) (R : σ → Pr) : Prop :=
  ∀ (w : World) (vs : List Value), C w → okAll ps vs w → Calls P f vs.toArray w (PostX C' R)
section
variable {P : Program} {ops : Array Oper} {C : World → Prop} {Q : Exit → Act → World → Prop} {N : Nat} {M : List (Nat × Pr) → List Oper → Prop} {K : List (Nat × Pr)} {rest : List Oper} {d : Nat} {op : Op} {ty : TypeId} {pos : String} {af : Array Edge} {g : Option (Nat × Bool)}
theorem CTX_of {f : FuncId} {fn : Func} {c : Code} {ps : List Pr} {σ : Type} {C' : σ → World → Prop} {R : σ → Pr} (hf : P.funcs[f]? = some fn) (hb : fn.body = some c) (hN : fn.ntmps = N) (hps : Nat.ble ps.length N = true)
    (h : Hc P N (enumK 0 ps) C c (bodyPost P fn (PostX C' R))) : CTX P f C ps C' R := by
  intro w vs hC hk
  have hl := hk.length
  have hle := Nat.le_of_ble_eq_true hps
  refine calls_of_wp hf hb (h.out _ _ ⟨by simp; omega, rfl, fun t p hp => ?_, hC⟩)
  obtain ⟨v, _, hv, hok⟩ := enumK_spec ps vs 0 t p hk hp
  have hlt : t < vs.length := (List.getElem?_eq_some_iff.1 (by simpa using hv)).1
  exact ⟨v, by simp [Array.getElem?_append, hlt]; simpa [hlt] using hv, hok⟩
theorem RX1 {fn : Func} {σ : Type} {C' : σ → World → Prop} {R : σ → Pr} {t : Nat} {p : Pr} (hres : fn.results = #[.tmp t]) (ht : lookK K t = some p) (h : ∀ v w, C w → p.ok v w → ∃ y, C' y w ∧ (R y).ok v w) :
    Go_ N K C (bodyPost P fn (PostX C' R) .ret) := .of fun a w hst => ⟨hst.defers, _, results_tmp hres _ _ _, _, rfl, h _ w hst.cls (hst.get ht)⟩
/-! ### Functions as values that are known -/
/-! ### Elements whose cells the value tells -/
structure Det {α : Type} (Φ : Phi α) (Lf : α → List Value) : Prop where
  c : ∀ z cs w, Φ.φ z cs w → cs = Lf z
  i : ∀ z w, Φ.φ z (Lf z) w
variable {w0 : World} {L : List Osl}
end
end Go.Proofs.YtanlaggnhocjhaaGreat

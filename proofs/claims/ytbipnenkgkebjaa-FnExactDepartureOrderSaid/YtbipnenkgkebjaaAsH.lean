/- Rules for functions that keep a depot in a box and make lists meanwhile. -/
import Derived.Test.YtbipnenkgkebjaaShp
import Derived.Test.YtbipnenkgkebjaaDrb
import Derived.Test.YtbipnenkgkebjaaDrz
namespace Go.Proofs.Ytbipnenkgkebjaa
set_option linter.unusedSimpArgs false
set_option linter.unusedVariables false
open Go.RowKit Go.ChangeShapes Go.WideShapes Go.ChangeAt Go.Deep
abbrev lcD (g : Nat) (d : Dep) : Osl := .sl Dep 29 bDep [d] (.slice (some ⟨g, 0, none⟩) 1 1)
/-- A block whose cells are known, as a local struct: what they mean may depend on the memory. -/
theorem Sep.asL' {w0 w : World} {L : List Osl} (h : Sep w0 L w) {m : Nat} {e : TypeId} {g : Nat} {cs : List Value} {α : Type} {Ψ : Phi α} {z : α} (hm : L[m]? = some (.raw e g cs)) (hφ : Ψ.φ z cs w) : Sep w0 (L.set m (.sl α e Ψ [z] (.slice (some ⟨g, 0, none⟩) 1 1))) w := by
  unfold Sep at h ⊢
  obtain ⟨Bs, hl, hc⟩ := h
  have hf := hc.fct
  refine ⟨Bs, by simp [hl], ⟨hc.ext, hc.nd, hc.lo, hc.blk, fun m' o x hm' hx => ?_⟩⟩
  by_cases em : m = m'
  · subst em
    have hml : m < L.length := (List.getElem?_eq_some_iff.1 hm).1
    rw [List.getElem?_set_self hml] at hm'
    injection hm' with hm'
    subst hm'
    have e1 : x = (some g, e, cs) := hf m _ _ hm hx
    subst e1
    have hk := Ψ.len _ _ _ hφ
    refine ⟨1, rfl, ⟨_, rfl, .inl rfl⟩, Nat.le_refl _, by simp [maxLen], by simp [hk], (fun h => by cases h), fun j z' hz => ?_⟩
    cases j with
    | zero =>
      simp only [List.getElem?_cons_zero, Option.some.injEq] at hz
      subst hz
      rw [Nat.zero_mul, List.drop_zero, List.take_of_length_le (by rw [hk]; exact Nat.le_refl _)]
      exact hφ
    | succ j => simp at hz
  · rw [List.getElem?_set_ne em] at hm'
    exact hf m' o x hm' hx
/-- The cells of a local struct. -/
theorem Sep.oneC {w0 w : World} {L : List Osl} (h : Sep w0 L w) {m : Nat} {α : Type} {e : TypeId} {Ψ : Phi α} {z : α} {g : Nat} (hm : L[m]? = some (.sl α e Ψ [z] (.slice (some ⟨g, 0, none⟩) 1 1))) : ∃ cs, Blk w g e cs ∧ Ψ.φ z cs w := by
  obtain ⟨b, c, cs, hv, hc, hl, hls, hb⟩ := h.slc hm (by simp)
  injection hv with h1 h2 h3
  injection h1 with h1
  injection h1 with h1
  subst h1 h3
  have h0 := hls 0 z rfl
  rw [Nat.zero_mul, List.drop_zero] at h0
  have e : cs.take Ψ.k = cs := List.take_of_length_le (by rw [hl, Nat.one_mul]; exact Nat.le_refl _)
  rw [e] at h0
  exact ⟨cs, hb, h0⟩
section
variable {P : Program} {ops : Array Oper} {C : World → Prop} {Q : Exit → Act → World → Prop} {N : Nat} {M : List (Nat × Pr) → List Oper → Prop} {K : List (Nat × Pr)} {rest : List Oper} {d : Nat} {op : Op} {ty : TypeId} {pos : String} {af : Array Edge} {g : Option (Nat × Bool)} {w0 : World} {L : List Osl}
theorem W_loadL (m : Nat) (hM : Stepper P ops (Sep w0 L) N M) {α : Type} [Inhabited α] {e : TypeId} {Ψ : Phi α} {z : α} {b : Nat} {x : Operand} {t : TypeId} (hm : L[m]? = some (.sl α e Ψ [z] (.slice (some ⟨b, 0, none⟩) 1 1)))
    (hB : aggB P t Ψ.k = true) (hg : wantedK ops K g = some true) (hN : Nat.blt d N = true) (hx : kn K x = some (.inl (.pointer (some ⟨b, 0, none⟩)))) (h : M ((d, .inr (uA Ψ z)) :: K) rest) : M K (⟨some d, .load t x, ty, pos, af, g⟩ :: rest) :=
  W_load1A m hM hm (ks := Ψ.k) rfl hB hg hN (by rw [ptrAt_one]; exact hx) h
theorem W_ctC (hM : Stepper P ops C N M) {f : FuncId} {xs : Array Operand} {ats : Array TypeId} {ps ps0 : List Pr} {R : Pr} (hct : CT P f ps R) (hconv : ∀ vs w, C w → okAll ps0 vs w → okAll ps vs w) (hg : wantedK ops K g = some true) (hN : Nat.blt d N = true) (hargs : knAll K xs.toList = some ps0) (hB : callB P f = true)
    (h : M ((d, R) :: K) rest) : M K (⟨some d, .call { callee := .value (.func f), args := xs, argTypes := ats }, ty, pos, af, g⟩ :: rest) :=
  W_call hM hg hN hargs hB (fun w vs hC hk => hct.out w vs (hconv vs w hC hk)) h
theorem W_loadCs (hM : Stepper P ops C N M) {x : Operand} {t : TypeId} {b k : Nat} {cs : List Value} (hc : ∀ w, C w → ∀ (j : Nat) v, cs[j]? = some v → w.cell? ⟨b, j, none⟩ = some v) (hB : aggB P t k = true) (hg : wantedK ops K g = some true) (hN : Nat.blt d N = true) (hx : kn K x = some (.inl (.pointer (some ⟨b, 0, none⟩)))) (hk : cs.length = k)
    (h : M ((d, .inl (.agg cs.toArray)) :: K) rest) : M K (⟨some d, .load t x, ty, pos, af, g⟩ :: rest) :=
  W_val hM hN hg (fun ρ w hC hkk => by
    have hv : ρ x = .pointer (some ⟨b, 0, none⟩) := hkk x (by simp [Op.operands]) _ hx
    have hr := run_loadCells_list (P := P) w ⟨b, 0, none⟩ cs (fun j v hj => by rw [Addr.add_lit, Nat.zero_add]; exact hc w hC j v hj)
    rw [hk] at hr
    simp [execOp, hv, Instr.loadAt, Instr.sureAddr, loadVar, isAgg_true hB, aggB_size hB, hr]) h
/-- A new block that was made in a region that draws its order. -/
theorem Sq_openW {wr : World} {e : TypeId} {cs : List Value} {slot : Nat} {vf : Nat → Value} {of : Nat → Osl} {l : List Oper} (t : Nat) (hS : Sep w0 L wr) (ht : lookK K t = some (.inr (uNw wr.heap.size ⟨slot, e, cs, vf, of⟩)))
    (h : ∀ g, Sq P ops N (Sep w0 (.raw e g cs :: L)) Q ((t, .inl (vf g)) :: K) l) : Sq P ops N (Ext wr) Q K l := by
  unfold Sq at h ⊢
  intro a w hst
  obtain ⟨v, hv, gg, h1, h2, h3⟩ := hst.slots t _ ht
  subst h1
  obtain ⟨Bs, hl, hcl⟩ := (by have := hS; unfold Sep at this; exact this : ∃ Bs : BL, Bs.length = L.length ∧ Cls w0 Bs (FctL L Bs) wr)
  refine h gg a w ⟨hst.size, hst.defers, fun u p hp => ?_, sep_cons hl (hcl.fresh upC_fct hst.cls h2 h3) rfl⟩
  by_cases e : t = u
  · subst e
    rw [lookK_same] at hp
    injection hp with hp
    subst hp
    exact ⟨_, hv, rfl⟩
  · rw [lookK_ne _ e] at hp
    exact hst.slots u p hp
end
def nwD (slot : Nat) : Nw := ⟨slot, 29, [.slice none 0 0, .slice none 0 0], fun g => .pointer (some ⟨g, 0, none⟩), fun g => .raw 29 g [.slice none 0 0, .slice none 0 0]⟩
theorem cg_l1Own {e : Option TypeId} (xs : List Int) (hb : xs.length ≤ 1048576) : CTG Try.prog 73 [.inr (uS e pI xs)] (fun s => .inr (uO s (oF 3 pI flat_I) xs)) :=
  CTX_ctg (fun w => cx_own xs hb w) (fun w s y v w' hs hC hv => ⟨hC.1.ext, by rw [show v = _ from hv]; exact hC.1.isO (m := 0) rfl hs⟩)
end Go.Proofs.Ytbipnenkgkebjaa

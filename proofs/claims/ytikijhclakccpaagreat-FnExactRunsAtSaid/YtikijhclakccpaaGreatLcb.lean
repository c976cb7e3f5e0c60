/- Two local structs made in a region that draws its order, read from then on. -/
import Derived.Test.YtikijhclakccpaaGreatTab
import Derived.Test.YtikijhclakccpaaGreatDrn
import Derived.Test.YtikijhclakccpaaGreatRunF0
import Derived.Test.YtikijhclakccpaaGreatOwnG
namespace Go.Proofs.YtikijhclakccpaaGreat
set_option linter.unusedSimpArgs false
set_option linter.unusedVariables false
open Go.RowKit Go.ChangeShapes Go.WideShapes Go.ChangeAt Go.Deep
theorem ptrAt_one {g k : Nat} : ptrAt (.slice (some ⟨g, 0, none⟩) 1 1) 0 k 0 = .pointer (some ⟨g, 0, none⟩) := by
  unfold ptrAt ptrOf
  simp
section
variable {P : Program} {ops : Array Oper} {C : World → Prop} {Q : Exit → Act → World → Prop} {N : Nat} {K : List (Nat × Pr)} {rest : List Oper} {d : Nat} {ty : TypeId} {pos : String} {af : Array Edge} {w0 : World} {L : List Osl}
theorem Sq_asU (t : Nat) {v : Value} (U : UR) {l : List Oper} (ht : lookK K t = some (.inl v)) (hU : ∀ w, C w → U.R v w) (h : Sq P ops N C Q ((t, .inr U) :: K) l) : Sq P ops N C Q K l := by
  unfold Sq at h ⊢
  intro a w hst
  refine h a w ⟨hst.size, hst.defers, fun t' p hp => ?_, hst.cls⟩
  by_cases e : t = t'
  · subst e
    rw [lookK_same] at hp
    injection hp with hp
    subst hp
    obtain ⟨u, hu, hv⟩ := hst.slots t _ ht
    have hv' : u = v := hv
    subst hv'
    exact ⟨u, hu, hU w hst.cls⟩
  · rw [lookK_ne _ e] at hp
    exact hst.slots t' p hp
theorem H_pinU {c : Code} {U : UR} (t : Nat) (ht : lookK K t = some (.inr U)) (h : ∀ v wr, C wr → U.R v wr → Hc P N ((t, .inl v) :: K) (Ext wr) c Q) : Hc P N K C c Q := .of fun a w hst => by
  obtain ⟨v, hv, hk⟩ := hst.slots t _ ht
  refine (h v w hst.cls hk).out a w ⟨hst.size, hst.defers, fun s p hp => ?_, Ext.refl _⟩
  by_cases e : t = s
  · subst e
    rw [lookK_same] at hp
    injection hp with hp
    subst hp
    exact ⟨v, hv, rfl⟩
  · rw [lookK_ne _ e] at hp
    exact hst.slots s p hp
theorem Sq_detA (t : Nat) {α : Type} {Ψ : Phi α} {z : α} {cs : List Value} {l : List Oper} (ht : lookK K t = some (.inr (uA Ψ z))) (hd : ∀ c w, Ψ.φ z c w → c = cs) (h : Sq P ops N C Q ((t, .inl (.agg cs.toArray)) :: K) l) : Sq P ops N C Q K l := by
  unfold Sq at h ⊢
  intro a w hst
  refine h a w ⟨hst.size, hst.defers, fun s p hp => ?_, hst.cls⟩
  by_cases e : t = s
  · subst e
    rw [lookK_same] at hp
    injection hp with hp
    subst hp
    obtain ⟨v, hv, c, rfl, hc⟩ := hst.slots t _ ht
    have := hd c w hc
    subst this
    exact ⟨_, hv, rfl⟩
  · rw [lookK_ne _ e] at hp
    exact hst.slots s p hp
theorem hp_ag {α : Type} {Ψ : Phi α} {x z : α} {cs : List Value} (hφ : ∀ w, Ψ.φ z cs w) : ∀ u w c, Pr.ok (.inl (.agg cs.toArray)) u w → Ψ.φ x c w → ∃ vs : List Value, u.cells = vs.toArray ∧ vs.length = Ψ.k ∧ (∀ r ∈ vs, r.oneCell' = true) ∧ Ψ.φ z (putL c 0 vs) w := fun u w c hu hc => by
  obtain rfl : u = .agg cs.toArray := hu
  have h1 := Ψ.len _ _ _ (hφ w)
  exact ⟨cs, rfl, h1, Ψ.one _ _ _ (hφ w), by rw [putL_all (by rw [h1, Ψ.len _ _ _ hc])]; exact hφ w⟩
theorem Sq_storeLD (m : Nat) {α : Type} [Inhabited α] {e : TypeId} {Ψ : Phi α} {z : α} {g : Nat} {x y : Operand} {t : TypeId} {cs : List Value} (z' : α) (hm : L[m]? = some (.sl α e Ψ [z] (.slice (some ⟨g, 0, none⟩) 1 1))) (hav : avAll L e) (hsz : allocB P t Ψ.k = true)
    (hy : kn K y = some (.inl (.pointer (some ⟨g, 0, none⟩)))) (hx : kn K x = some (.inl (.agg cs.toArray))) (hφ : ∀ w, Ψ.φ z' cs w) (h : Sq P ops N (Sep w0 (L.set m (.sl α e Ψ [z'] (.slice (some ⟨g, 0, none⟩) 1 1)))) Q (dropR K) rest) : Sq P ops N (Sep w0 L) Q K (⟨none, .store t y x, ty, pos, af, none⟩ :: rest) :=
  Sq_storeO1 m (ks := Ψ.k) (off := 0) z' hm hav rfl hsz (by omega) (by rw [ptrAt_one]; exact hy) hx (hp_ag hφ) h
theorem Sep.uPb {w : World} (h : Sep w0 L w) {m : Nat} {α : Type} [Inhabited α] {e : TypeId} {Ψ : Phi α} {z : α} {g : Nat} (hm : L[m]? = some (.sl α e Ψ [z] (.slice (some ⟨g, 0, none⟩) 1 1))) : (uP Ψ z).R (.pointer (some ⟨g, 0, none⟩)) w := by
  obtain ⟨b, c, h1, h2, h3⟩ := h.cell hm (proj_self (Ψ := Ψ)) (i := 0) ⟨by simp, by simp⟩
  rw [ptrAt_one] at h1
  injection h1 with h1
  injection h1 with h1
  injection h1 with h1
  subst h1
  exact ⟨_, _, c, rfl, by simpa using h2, h3⟩
end
/-- A trip, newly made. -/
def nwT (slot : Nat) : Nw := ⟨slot, 84, [.int .i64 0, .int .i64 0, .int .i64 0], fun g => .pointer (some ⟨g, 0, none⟩), fun g => .sl Trp 84 pTrp [⟨0, 0, 0⟩] (.slice (some ⟨g, 0, none⟩) 1 1)⟩
theorem nwT_ok {slot : Nat} : (nwT slot).Ok := ⟨fun g => rfl, fun g w => ⟨1, rfl, ⟨_, rfl, .inl rfl⟩, Nat.le_refl _, by simp [maxLen], rfl, (fun h => by cases h), fun j z hz => by
  cases j with
  | zero =>
    simp only [List.getElem?_cons_zero, Option.some.injEq] at hz
    subst hz
    exact ⟨[_], _, rfl, rfl, [_], _, rfl, rfl, [_], _, rfl, rfl, rfl⟩
  | succ j => simp at hz⟩⟩
def trpC (z : Trp) : List Value := [.int .i64 z.I, .int .i64 z.L, .int .i64 z.S]
theorem trp_phi {z : Trp} : ∀ w, pTrp.φ z (trpC z) w := fun w => ⟨[_], _, rfl, rfl, [_], _, rfl, rfl, [_], _, rfl, rfl, rfl⟩
theorem trp_det {z : Trp} : ∀ c w, pTrp.φ z c w → c = trpC z := fun c w h => by
  obtain ⟨_, _, rfl, rfl, _, _, rfl, rfl, _, _, rfl, rfl, rfl⟩ := h
  rfl
theorem avT2 {x y : List Trp} {v u : Value} {e e' : TypeId} : avAll [.sl Trp e pTrp x v, .sl Trp e' pTrp y u] 84 := ⟨(by repeat (first | exact av_nil | exact av_I | refine av_cat ?_ ?_)), (by repeat (first | exact av_nil | exact av_I | refine av_cat ?_ ?_)), trivial⟩
end Go.Proofs.YtikijhclakccpaaGreat

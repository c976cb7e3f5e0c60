/- A result that is built in a box of one's own: rules for its blocks and its end. -/
import Derived.Test.YtanlaggnhocjhaaGreatRwz
import Derived.Test.YtanlaggnhocjhaaGreatRunF0
import Derived.Test.YtanlaggnhocjhaaGreatIns
namespace Go.Proofs.YtanlaggnhocjhaaGreat
set_option linter.unusedSimpArgs false
set_option linter.unusedVariables false
open Go.RowKit Go.ChangeShapes Go.WideShapes Go.ChangeAt Go.Deep
theorem set_fillK {α : Type} {xs : List α} {d z : α} {n i : Nat} (h : xs.length = i) (hi : i < n) : (xs ++ List.replicate (n - i) d).set i z = (xs ++ [z]) ++ List.replicate (n - (i + 1)) d := by
  subst h
  rw [show n - xs.length = (n - (xs.length + 1)) + 1 by omega, List.replicate_succ, List.set_append_right _ _ (Nat.le_refl _), Nat.sub_self, List.set_cons_zero]
  simp
theorem set_fill0 {α : Type} {xs : List α} {d : α} {n i : Nat} (h : xs.length = i) (hi : i < n) : (xs ++ List.replicate (n - i) d).set i d = xs ++ List.replicate (n - i) d := by
  rw [set_fillK h hi, List.append_assoc]
  congr 1
  rw [show n - i = (n - (i + 1)) + 1 by omega, List.replicate_succ]
  rfl
theorem ix_setV {α : Type} [Inhabited α] {xs : List α} {i : Nat} {z : α} (hi : i < xs.length) : ix (xs.set i z) (i : Int) = z := by simp [ix, hi]
theorem Sep.low {w q w' : World} {L : List Osl} (hE : Ext w q) (h : Sep q L w') : Sep w L w' := by
  unfold Sep at h ⊢
  obtain ⟨Bs, hl, hc⟩ := h
  exact ⟨Bs, hl, hE.trans hc.ext, hc.nd, fun g hg => Nat.le_trans hE.size (hc.lo g hg), hc.blk, hc.fct⟩
section
variable {P : Program} {ops : Array Oper} {C : World → Prop} {Q : Exit → Act → World → Prop} {N : Nat} {M : List (Nat × Pr) → List Oper → Prop} {K : List (Nat × Pr)} {rest : List Oper} {d : Nat} {op : Op} {ty : TypeId} {pos : String} {af : Array Edge} {g : Option (Nat × Bool)} {w0 : World} {L : List Osl}
/-- What a slice of one's own is told by is a slice. -/
theorem Sq_slV (m : Nat) {α : Type} {e : TypeId} {Ψ : Phi α} {xs : List α} {v : Value} {l : List Oper} (hm : L[m]? = some (.sl α e Ψ xs v)) (h : v.oneCell' = true → Sq P ops N (Sep w0 L) Q K l) : Sq P ops N (Sep w0 L) Q K l := by
  unfold Sq at h ⊢
  intro a w hst
  obtain ⟨A, c, cs, ⟨p, h1, _⟩, _⟩ := hst.cls.get hm
  exact h (by rw [h1]; rfl) a w hst
/-- Values in a slice of one's own. -/
theorem W_loadSV (m : Nat) (hM : Stepper P ops (Sep w0 L) N M) {e : TypeId} {vs : List Value} {v : Value} {x : Operand} {t : TypeId} {i : Int} (hm : L[m]? = some (.sl Value e pV vs v)) (hi : 0 ≤ i ∧ i < (vs.length : Int))
    (hB : scalarB P t = true) (hg : wantedK ops K g = some true) (hN : Nat.blt d N = true) (hx : kn K x = some (.inl (ptrAt v i 1 0))) (h : M ((d, .inl (ix vs i)) :: K) rest) : M K (⟨some d, .load t x, ty, pos, af, g⟩ :: rest) :=
  W_loadS1 m hM (Θ := pV) (q := fun z => z) id hm proj_self mk_V rfl hi hB hg hN hx h
theorem W_idxS1 (m : Nat) (hM : Stepper P ops (Sep w0 L) N M) {α : Type} {e : TypeId} {Ψ : Phi α} {xs : List α} {v : Value} {x y : Operand} {t : TypeId} {k : IntKind} {i : Int} (hm : L[m]? = some (.sl α e Ψ xs v)) (h1 : Ψ.k = 1) (hB : elemB P t 1 = true) (hg : wantedK ops K g = some true) (hN : Nat.blt d N = true)
    (hx : kn K x = some (.inl v)) (hy : kn K y = some (.inl (.int k i))) (hi : 0 ≤ i ∧ i < (xs.length : Int)) (h : M ((d, .inl (ptrAt v i 1 0)) :: K) rest) : M K (⟨some d, .indexAddr t x y, ty, pos, af, g⟩ :: rest) := by
  rw [← h1] at hB h
  exact W_idxS m hM hm hB hg hN hx hy hi h
/-- A place of a slice of values gets another one. -/
theorem Sq_storeSV (m : Nat) {e : TypeId} {xs : List Value} {v u : Value} {x y : Operand} {t : TypeId} {i : Int} (hm : L[m]? = some (.sl Value e pV xs v)) (hav : avAll L e) (hi : 0 ≤ i ∧ i < (xs.length : Int)) (hsz : allocB P t 1 = true) (hu : u.oneCell' = true)
    (hy : kn K y = some (.inl (ptrAt v i 1 0))) (hx : kn K x = some (.inl u))
    (h : Sq P ops N (Sep w0 (L.set m (.sl Value e pV (xs.set i.toNat u) v))) Q (dropR K) rest) : Sq P ops N (Sep w0 L) Q K (⟨none, .store t y x, ty, pos, af, none⟩ :: rest) :=
  Sq_storeS m (n := 1) (off := 0) u hm hav hi rfl hsz (Nat.le_refl _) hy hx (hp_1 rfl hu fun w => ⟨rfl, hu⟩) h
end
/-- A contract of a world, as one of what is read. -/
theorem CTX_ct {P : Program} {f : FuncId} {ps : List Pr} {σ : Type} {C' : World → σ → World → Prop} {R : World → σ → Pr} {U : Pr} (h : ∀ w, CTX P f (fun w1 => w1 = w) ps (C' w) (R w)) (hR : ∀ w y v w', C' w y w' → (R w y).ok v w' → Ext w w' ∧ U.ok v w') : CT P f ps U := .of fun w vs hk =>
  (h w w vs rfl hk).mono fun e w' ⟨v, he, y, h1, h2⟩ => ⟨v, he, hR w y v w' h1 h2⟩
end Go.Proofs.YtanlaggnhocjhaaGreat

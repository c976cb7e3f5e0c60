/- Lists of lists of numbers of one's own: the outer list by the values of the inner ones, each inner one for itself. -/
import Derived.Test.YtanlaggnhocjhaaGreatDrn
namespace Go.Proofs.YtanlaggnhocjhaaGreat
set_option linter.unusedSimpArgs false
set_option linter.unusedVariables false
open Go.RowKit Go.ChangeShapes Go.WideShapes Go.ChangeAt Go.Deep
def rowsZ : List (List Int) → List Value → List Osl
  | l :: ls, v :: vs => .sl Int 3 pI l v :: rowsZ ls vs
  | _, _ => []
theorem rowsZ_get : ∀ {ls : List (List Int)} {vs : List Value} {i : Nat}, ls.length = vs.length → i < ls.length → (rowsZ ls vs)[i]? = some (.sl Int 3 pI (ix ls i) (ix vs i))
  | l :: ls, v :: vs, 0, _, _ => rfl
  | l :: ls, v :: vs, i + 1, h, hi => by
    have := rowsZ_get (ls := ls) (vs := vs) (i := i) (by simpa using h) (by simpa using hi)
    simp only [rowsZ, List.getElem?_cons_succ, this, ix, Int.toNat_natCast, List.getD_cons_succ]
  | [], _, i, _, h => by simp at h
  | _ :: _, [], i, h, _ => by simp at h
theorem rowsZ_snoc : ∀ {ls : List (List Int)} {vs : List Value} {l : List Int} {v : Value}, ls.length = vs.length → rowsZ (ls ++ [l]) (vs ++ [v]) = rowsZ ls vs ++ [.sl Int 3 pI l v]
  | [], [], _, _, _ => rfl
  | l0 :: ls, v0 :: vs, l, v, h => by simp [rowsZ, rowsZ_snoc (ls := ls) (vs := vs) (l := l) (v := v) (by simpa using h)]
  | [], _ :: _, _, _, h => by simp at h
  | _ :: _, [], _, _, h => by simp at h
theorem avAll_rows : ∀ {ls : List (List Int)} {vs : List Value} {t : TypeId}, avAll (rowsZ ls vs) t
  | [], _, _ => trivial
  | _ :: _, [], _ => trivial
  | _ :: ls, _ :: vs, _ => ⟨trivial, avAll_rows (ls := ls) (vs := vs)⟩
/-- What the outer list and the inner ones read as. -/
theorem isS_rows {ls : List (List Int)} {vs : List Value} {v : Value} {w : World} (hl : ls.length = vs.length) (ho : IsS (some 37) pV vs v w) (hr : ∀ i : Nat, i < ls.length → IsS (some 3) pI (ix ls i) (ix vs i) w) :
    IsS (some 37) (pS (some 3) pI) ls v w := by
  obtain ⟨A, n, c, h1, h2, h3, h4, hall⟩ := ho
  refine ⟨A, n, c, h1, by omega, h3, h4, fun i x hx => ?_⟩
  have hi : i < ls.length := (List.getElem?_eq_some_iff.1 hx).1
  have hv : vs[i]? = some (ix vs (i : Int)) := by simp [ix, show i < vs.length by omega]
  obtain ⟨b, off, cs, hA, hc, hφ, ht⟩ := hall i _ hv
  have hx' : ix ls (i : Int) = x := by
    rw [List.getElem?_eq_getElem hi] at hx
    injection hx with hx
    simp [ix, hi, hx]
  have := hr i hi
  rw [hx'] at this
  exact ⟨b, off, cs, hA, hc, ⟨_, hφ.1, this⟩, ht⟩
theorem mk_V : ∀ (z : Value) (cs : List Value) (w : World), pV.φ z cs w → cs = [id z] := fun _ _ _ h => h.1
end Go.Proofs.YtanlaggnhocjhaaGreat

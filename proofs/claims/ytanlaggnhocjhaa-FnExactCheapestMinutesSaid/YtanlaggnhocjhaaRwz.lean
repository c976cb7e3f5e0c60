/- Lists of lists of numbers of one's own: the outer list by the values of the inner ones, each inner one for itself. -/
import Derived.Test.YtanlaggnhocjhaaDrn
namespace Go.Proofs.Ytanlaggnhocjhaa
set_option linter.unusedSimpArgs false
set_option linter.unusedVariables false
open Go.RowKit Go.ChangeShapes Go.WideShapes Go.ChangeAt Go.Deep
def rowsZ : List (List Int) → List Value → List Osl
  | l :: ls, v :: vs => .sl Int 3 pI l v :: rowsZ ls vs
  | _, _ => []
theorem rowsZ_get : ∀ {ls : List (List Int)} {vs : List Value} {i : Nat}, ls.length = vs.length → i < ls.length → (rowsZ ls vs)[i]? = some (.sl Int 3 pI (ix ls i) (ix vs i))
  | l :: ls, v :: vs, 0, _, _ => rfl
  | l :: ls, v :: vs, i + 1, h, hi => by
    have := rowsZ_get (ls := ls) (vs := vs) (i := i) (by simpa using h) (by simpa using hi)
    simp only [rowsZ, List.getElem?_cons_succ, this, ix, Int.toNat_natCast, List.getD_cons_succ]
  | [], _, i, _, h => by simp at h
  | _ :: _, [], i, h, _ => by simp at h
theorem rowsZ_set : ∀ {ls : List (List Int)} {vs : List Value} {i : Nat} {l : List Int}, ls.length = vs.length → i < ls.length → (rowsZ ls vs).set i (.sl Int 3 pI l (ix vs i)) = rowsZ (ls.set i l) vs
  | l0 :: ls, v :: vs, 0, l, _, _ => rfl
  | l0 :: ls, v :: vs, i + 1, l, h, hi => by
    have := rowsZ_set (ls := ls) (vs := vs) (i := i) (l := l) (by simpa using h) (by simpa using hi)
    simp only [rowsZ, List.set_cons_succ, ix, Int.toNat_natCast, List.getD_cons_succ] at this ⊢
    rw [this]
  | [], _, i, _, _, h => by simp at h
  | _ :: _, [], i, _, h, _ => by simp at h
theorem rowsZ_snoc : ∀ {ls : List (List Int)} {vs : List Value} {l : List Int} {v : Value}, ls.length = vs.length → rowsZ (ls ++ [l]) (vs ++ [v]) = rowsZ ls vs ++ [.sl Int 3 pI l v]
  | [], [], _, _, _ => rfl
  | l0 :: ls, v0 :: vs, l, v, h => by simp [rowsZ, rowsZ_snoc (ls := ls) (vs := vs) (l := l) (v := v) (by simpa using h)]
  | [], _ :: _, _, _, h => by simp at h
  | _ :: _, [], _, _, h => by simp at h
theorem avAll_rows : ∀ {ls : List (List Int)} {vs : List Value} {t : TypeId}, avAll (rowsZ ls vs) t
  | [], _, _ => trivial
  | _ :: _, [], _ => trivial
  | _ :: ls, _ :: vs, _ => ⟨trivial, avAll_rows (ls := ls) (vs := vs)⟩
/-- What the outer list and the inner ones read as. -/
theorem isS_rows {ls : List (List Int)} {vs : List Value} {v : Value} {w : World} (hl : ls.length = vs.length) (ho : IsS (some 39) pV vs v w) (hr : ∀ i : Nat, i < ls.length → IsS (some 3) pI (ix ls i) (ix vs i) w) :
    IsS (some 39) (pS (some 3) pI) ls v w := by
  obtain ⟨A, n, c, h1, h2, h3, h4, hall⟩ := ho
  refine ⟨A, n, c, h1, by omega, h3, h4, fun i x hx => ?_⟩
  have hi : i < ls.length := (List.getElem?_eq_some_iff.1 hx).1
  have hv : vs[i]? = some (ix vs (i : Int)) := by simp [ix, show i < vs.length by omega]
  obtain ⟨b, off, cs, hA, hc, hφ, ht⟩ := hall i _ hv
  have hx' : ix ls (i : Int) = x := by
    rw [List.getElem?_eq_getElem hi] at hx
    injection hx with hx
    simp [ix, hi, hx]
  have := hr i hi
  rw [hx'] at this
  exact ⟨b, off, cs, hA, hc, ⟨_, hφ.1, this⟩, ht⟩
theorem mk_V : ∀ (z : Value) (cs : List Value) (w : World), pV.φ z cs w → cs = [id z] := fun _ _ _ h => h.1
theorem len_one {α : Type} {l : List α} (h : l.length = 1) : ∃ a, l = [a] := by
  match l, h with
  | [a], _ => exact ⟨a, rfl⟩
theorem len_two {α : Type} {l : List α} (h : l.length = 2) : ∃ a b, l = [a, b] := by
  match l, h with
  | [a, b], _ => exact ⟨a, b, rfl⟩
theorem len_three {α : Type} {l : List α} (h : l.length = 3) : ∃ a b c, l = [a, b, c] := by
  match l, h with
  | [a, b, c], _ => exact ⟨a, b, c, rfl⟩
theorem len_four {α : Type} {l : List α} (h : l.length = 4) : ∃ a b c d, l = [a, b, c, d] := by
  match l, h with
  | [a, b, c, d], _ => exact ⟨a, b, c, d, rfl⟩
/-- New slices of numbers. -/
def nwI (slot n : Nat) : Nw := ⟨slot, 3, List.replicate n (.int .i64 0), fun g => .slice (some ⟨g, 0, none⟩) n n, fun g => .sl Int 3 pI (List.replicate n 0) (.slice (some ⟨g, 0, none⟩) n n)⟩
theorem nwI_ok {slot n : Nat} (hn : n ≤ maxLen) : (nwI slot n).Ok := ⟨fun g => rfl, fun g w => ⟨n, rfl, ⟨_, by rw [List.length_replicate]; rfl, .inl rfl⟩, by rw [List.length_replicate]; exact Nat.le_refl _, hn, by show (List.replicate n _).length = n * 1; rw [List.length_replicate, Nat.mul_one], (fun h => by cases h), fun j z hz => by
  have hj : j < n := by have := (List.getElem?_eq_some_iff.1 hz).1; rwa [List.length_replicate] at this
  rw [List.getElem?_replicate, if_pos hj] at hz
  injection hz with hz
  subst hz
  show ((List.replicate n (Value.int .i64 0)).drop (j * 1)).take 1 = [.int .i64 0]
  rw [Nat.mul_one, List.drop_replicate, List.take_replicate, show min 1 (n - j) = 1 by omega]
  rfl⟩⟩
def nwE (slot : Nat) : Nw := ⟨slot, 3, [], fun g => .slice (some ⟨g, 0, none⟩) 0 0, fun g => .sl Int 3 pI [] (.slice (some ⟨g, 0, none⟩) 0 0)⟩
theorem nwE_ok {slot : Nat} : (nwE slot).Ok := ⟨fun g => rfl, fun g w => ⟨0, rfl, ⟨_, rfl, .inl rfl⟩, Nat.le_refl _, Nat.zero_le _, by simp [nwE], (fun h => by cases h), ls_nil⟩⟩
def nwB (slot : Nat) (t : TypeId) (cs : List Value) : Nw := ⟨slot, t, cs, fun g => .pointer (some ⟨g, 0, none⟩), fun g => .raw t g cs⟩
theorem nwB_ok {slot : Nat} {t : TypeId} {cs : List Value} : (nwB slot t cs).Ok := ⟨fun g => rfl, fun g w => rfl⟩
theorem cells_I {n : Nat} : (madeCells (zeroOf Try.prog 3) (n * 1)).toList = List.replicate n (.int .i64 0) := by
  have hz : zeroOf Try.prog 3 = #[.int .i64 0] := by kernel_rfl
  rw [hz, Nat.mul_one]
  apply List.ext_getElem?
  intro i
  simp only [madeCells, Array.toList_map, Array.toList_range, List.getElem?_map]
  by_cases hi : i < n
  · rw [List.getElem?_range hi, List.getElem?_replicate, if_pos hi]
    simp [Nat.mod_one]
  · rw [List.getElem?_eq_none (by simp; omega), List.getElem?_eq_none (by simp; omega)]
    rfl
theorem blk_one {w : World} {g : Nat} {e : TypeId} {u : Value} (h : Blk w g e [u]) (h1 : u.oneCell' = true) : IsS (some e) pV [u] (.slice (some ⟨g, 0, none⟩) 1 1) w :=
  h.isS rfl (by simp [maxLen]) fun i x hi => by
    cases i with
    | zero => simp at hi; subst hi; exact ⟨[u], fun j v hj => by simpa [pV] using hj, rfl, h1⟩
    | succ i => simp at hi
theorem sep_end {q w : World} {o : Osl} {L : List Osl} (h : Sep q (o :: L) w) : Sep q (L ++ [o]) w := h.perm (List.perm_append_singleton o L).symm
end Go.Proofs.Ytanlaggnhocjhaa

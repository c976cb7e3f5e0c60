/- The library's sort of whole numbers, in a slice of one's own. -/
import Derived.Test.YtanlaggnhocjhaaSort
import Derived.Shelf.Lay
import Derived.Shelf.Sort.Plain
import Derived.Shelf.Slices.In.SortNone
import Derived.Ground.NamesProg
namespace Go.Proofs.Ytanlaggnhocjhaa
set_option linter.unusedSimpArgs false
set_option linter.unusedVariables false
open Go.RowKit Go.Shelf
shelf_lay Lays.n189 Nm 189 at Try as soLays
theorem ext_ahead (w : World) (n : Nat) : Ext w (Go.Sort.ahead w n) := ⟨rfl, rfl, rfl, Nat.le_refl _, fun _ _ => rfl⟩
theorem ext_grow (w : World) (os : Array Obj) : Ext w (Go.Sort.grow w os) := ⟨rfl, rfl, rfl, by simp, fun k hk => Go.Sort.heap_grow_old w os hk⟩
theorem putRow_setRow {w : World} {b : Nat} {e : TypeId} {cs : List Value} (hB : Blk w b e cs) (d : Array Int) : Go.Sort.putRow (Value.int .i64) w b 0 d = w.setRow b (Go.Sort.putCells (Value.int .i64) 0 d cs.toArray) := by
  have hB' : w.heap[b]? = some (.cells cs.toArray e (0, 0)) := hB
  unfold Go.Sort.putRow Go.Sort.mapBlock World.setRow
  congr 1
  apply Array.ext_getElem?
  intro k
  simp only [Array.getElem?_modify]
  by_cases hk : b = k
  · subst hk
    simp only [if_true, hB', Option.map_some]
    rfl
  · simp [hk]
theorem putCells_at {d : Array Int} {c : Array Value} {j : Nat} (hj : j < d.size) (hc : j < c.size) : (Go.Sort.putCells (Value.int .i64) 0 d c)[j]? = some (.int .i64 d[j]!) := by
  rw [Go.Sort.putCells, Array.getElem?_mapIdx, Array.getElem?_eq_getElem hc, Option.map_some, if_pos ⟨Nat.zero_le _, by omega⟩, Nat.sub_zero]
def srtI (xs : List Int) : List Int := xs.mergeSort fun x y => decide (x ≤ y)
theorem srtI_len {xs : List Int} : (srtI xs).length = xs.length := by unfold srtI; simp
section
variable {w0 : World} {L : List Osl}
theorem cx_sortI (m : Nat) {e : TypeId} {v : Value} {xs : List Int} (hm : L[m]? = some (.sl Int e pI xs v)) (hav : avAll L e) (hsz : xs.length ≤ 1048576) :
    CTX Try.prog 55 (Sep w0 L) [.inl v] (fun (_ : Unit) w' => Sep w0 (L.set m (.sl Int e pI (srtI xs) v)) w') (fun _ => .inl (.tuple #[])) := by
  intro w vs hC hk
  obtain ⟨u, rfl, rfl⟩ : ∃ u, vs = [u] ∧ u = v := by
    match vs, hk with
    | [u], hk => exact ⟨u, rfl, hk.1⟩
  have hC2 := hC
  unfold Sep at hC
  obtain ⟨Bs, hl, hc⟩ := hC
  have hml : m < Bs.length := by rw [hl]; exact (List.getElem?_eq_some_iff.1 hm).1
  have hbx := List.getElem?_eq_getElem hml
  obtain ⟨c, h1, ⟨p, h2, h2p⟩, h3, h4, h5, h6, h7⟩ := hc.fct m _ _ hm hbx
  generalize hX : Bs[m] = X at *
  obtain ⟨A, e', cs⟩ := X
  simp only at h1 h2 h2p h5 h6 h7
  subst h1 h2
  cases A with
  | none =>
    have hx : xs = [] := h6 rfl
    subst hx
    refine (Any.slices_Sort_int_none soLays p c w).mono fun en w' ⟨h8, h9⟩ => ?_
    subst h8 h9
    refine ⟨_, rfl, (), ?_, rfl⟩
    rw [show srtI [] = [] by simp [srtI], set_same' hm]
    exact hC2
  | some b =>
    obtain rfl := h2p.some_
    have hB : Blk w b e' cs := hc.get hbx
    have hcl : cs.length = c := by rw [h5]; exact Nat.mul_one c
    have hcell : ∀ (j : Nat) (z : Int), xs[j]? = some z → cs[j]? = some (.int .i64 z) := fun j z hz => by
      have h8 : (cs.drop (j * 1)).take 1 = [.int .i64 z] := h7 j z hz
      rw [Nat.mul_one] at h8
      have h9 : ((cs.drop j).take 1)[0]? = some (.int .i64 z) := by rw [h8]; rfl
      rw [List.getElem?_take_of_lt (by decide), List.getElem?_drop, Nat.add_zero] at h9
      exact h9
    have hH : Go.Sort.Holds (Value.int .i64) w b 0 xs.toArray := fun j hj => by
      have hj' : j < xs.length := by simpa using hj
      have h8 := hcell j _ (List.getElem?_eq_getElem hj')
      have h9 : xs.toArray[j]! = xs[j] := by simp [getElem!_pos, hj']
      refine ⟨by rw [Nat.zero_add, h9]; exact hB.cell h8, ?_⟩
      have hB' : w.heap[b]? = some (.cells cs.toArray e' (0, 0)) := hB
      simp [World.frozen?, hB']
    refine (Any.slices_Sort_int soLays b 0 c xs w hH hB.lt (by omega)).mono fun en w' ⟨h8, n, os, h9⟩ => ?_
    subst h8 h9
    refine ⟨_, rfl, (), ?_, rfl⟩
    have hc2 : Cls w0 Bs (FctL L Bs) (Go.Sort.ahead w n) := upC_cls upC_fct _ _ hc (ext_ahead w n)
    have hB2 : Blk (Go.Sort.ahead w n) b e' cs := hc2.get hbx
    have hsl : (srtI xs).length = xs.length := srtI_len
    refine upC_sep _ _ ?_ (ext_grow _ os)
    rw [putRow_setRow hB2]
    have hfin := sep_put (o' := .sl Int e' pI (srtI xs) (.slice (aOf (some b)) xs.length c)) (cs' := (Go.Sort.putCells (Value.int .i64) 0 (srtI xs).toArray cs.toArray).toList) hl hc2 hbx hav (fun w2 hs => ?_)
    · rw [Array.toArray_toList] at hfin
      exact hfin
    · refine ⟨c, rfl, ⟨aOf (some b), by rw [hsl], h2p⟩, by rw [hsl]; exact h3, h4, by simp [Go.Sort.putCells]; omega, (fun h => by cases h), fun j z hz => ?_⟩
      have hjl := (List.getElem?_eq_some_iff.1 hz).1
      show ((_ : List Value).drop (j * 1)).take 1 = [.int .i64 z]
      rw [Nat.mul_one]
      have h8 := putCells_at (d := (srtI xs).toArray) (c := cs.toArray) (j := j) (by simpa using hjl) (by simp; omega)
      have h9 : (srtI xs).toArray[j]! = z := by
        rw [List.getElem?_eq_getElem hjl] at hz
        injection hz with hz
        simp [getElem!_pos, hjl, hz]
      rw [h9] at h8
      apply List.ext_getElem?
      intro r
      rw [List.getElem?_take]
      split
      · obtain rfl : r = 0 := by omega
        rw [List.getElem?_drop, Nat.add_zero, Array.getElem?_toList, h8]
        rfl
      · rw [List.getElem?_eq_none]
        simp
        omega
end
end Go.Proofs.Ytanlaggnhocjhaa

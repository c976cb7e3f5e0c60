/- The library's sort of whole numbers, in a slice of one's own. -/
import Derived.Test.YtanlaggnhocjhaaSort
import Derived.Shelf.Sort.Plain
import Derived.Shelf.Slices.In.SortNone
namespace Go.Proofs.Ytanlaggnhocjhaa
set_option linter.unusedSimpArgs false
set_option linter.unusedVariables false
open Go.RowKit Go.Shelf
def soLays_ren : Go.Shelf.Ren := ⟨fun | 189 => 55 | 125 => 76 | 257 => 75 | 128 => 93 | 129 => 94 | 294 => 84 | 295 => 85 | 296 => 86 | 297 => 87 | 298 => 88 | 299 => 89 | 216 => 90 | 300 => 91 | 301 => 92 | 328 => 97 | 329 => 98 | 330 => 99 | 331 => 100 | 332 => 101 | 215 => 74 | 343 => 103 | n => n,
  fun | 28 => 39 | 3 => 3 | 46 => 82 | 0 => 0 | 51 => 97 | 53 => 99 | 4 => 4 | 183 => 89 | 182 => 88 | 131 => 94 | 5 => 5 | 9 => 9 | 218 => 101 | 222 => 105 | 228 => 107 | 229 => 68 | n => n,
  fun | n => n⟩
theorem soLays : Go.Proofs.Lays.n189 Try.prog soLays_ren := {
  mixed := by kernel_rfl,
  f125 := Try.func76.trans (congrArg some (by kernel_rfl)),
  f128 := Try.func93.trans (congrArg some (by kernel_rfl)),
  f129 := Try.func94.trans (congrArg some (by kernel_rfl)),
  f189 := Try.func55.trans (congrArg some (by kernel_rfl)),
  f215 := Try.func74.trans (congrArg some (by kernel_rfl)),
  f216 := Try.func90.trans (congrArg some (by kernel_rfl)),
  f257 := Try.func75.trans (congrArg some (by kernel_rfl)),
  f294 := Try.func84.trans (congrArg some (by kernel_rfl)),
  f295 := Try.func85.trans (congrArg some (by kernel_rfl)),
  f296 := Try.func86.trans (congrArg some (by kernel_rfl)),
  f297 := Try.func87.trans (congrArg some (by kernel_rfl)),
  f298 := Try.func88.trans (congrArg some (by kernel_rfl)),
  f299 := Try.func89.trans (congrArg some (by kernel_rfl)),
  f300 := Try.func91.trans (congrArg some (by kernel_rfl)),
  f301 := Try.func92.trans (congrArg some (by kernel_rfl)),
  f328 := Try.func97.trans (congrArg some (by kernel_rfl)),
  f329 := Try.func98.trans (congrArg some (by kernel_rfl)),
  f330 := Try.func99.trans (congrArg some (by kernel_rfl)),
  f331 := Try.func100.trans (congrArg some (by kernel_rfl)),
  f332 := Try.func101.trans (congrArg some (by kernel_rfl)),
  f343 := Try.func103.trans (congrArg some (by kernel_rfl)),
  t0 := Try.underlying0,
  a0 := Try.isAgg0,
  z0 := Try.sizeOf0,
  v0 := Try.zeroValue0,
  t3 := Try.underlying3,
  a3 := Try.isAgg3,
  z3 := Try.sizeOf3,
  v3 := Try.zeroValue3,
  t4 := Try.underlying4,
  a4 := Try.isAgg4,
  z4 := Try.sizeOf4,
  v4 := Try.zeroValue4,
  t5 := Try.underlying5,
  a5 := Try.isAgg5,
  z5 := Try.sizeOf5,
  v5 := Try.zeroValue5,
  t9 := Try.underlying9,
  a9 := Try.isAgg9,
  z9 := Try.sizeOf9,
  v9 := Try.zeroValue9,
  t28 := Try.underlying39,
  a28 := Try.isAgg39,
  z28 := Try.sizeOf39,
  v28 := Try.zeroValue39,
  t46 := Try.underlying82,
  a46 := Try.isAgg82,
  z46 := Try.sizeOf82,
  v46 := Try.zeroValue82,
  t51 := Try.underlying97,
  a51 := Try.isAgg97,
  z51 := Try.sizeOf97,
  v51 := Try.zeroValue97,
  t53 := Try.underlying99,
  a53 := Try.isAgg99,
  z53 := Try.sizeOf99,
  v53 := Try.zeroValue99,
  t131 := Try.underlying94,
  a131 := Try.isAgg94,
  z131 := Try.sizeOf94,
  v131 := Try.zeroValue94,
  t182 := Try.underlying88,
  a182 := Try.isAgg88,
  z182 := Try.sizeOf88,
  v182 := Try.zeroValue88,
  t183 := Try.underlying89,
  a183 := Try.isAgg89,
  z183 := Try.sizeOf89,
  v183 := Try.zeroValue89,
  t218 := Try.underlying101,
  a218 := Try.isAgg101,
  z218 := Try.sizeOf101,
  v218 := Try.zeroValue101,
  t222 := Try.underlying105,
  a222 := Try.isAgg105,
  z222 := Try.sizeOf105,
  v222 := Try.zeroValue105,
  t228 := Try.underlying107,
  a228 := Try.isAgg107,
  z228 := Try.sizeOf107,
  v228 := Try.zeroValue107,
  t229 := Try.underlying68,
  a229 := Try.isAgg68,
  z229 := Try.sizeOf68,
  v229 := Try.zeroValue68 }
theorem ext_ahead (w : World) (n : Nat) : Ext w (Go.Sort.ahead w n) := ⟨rfl, rfl, rfl, Nat.le_refl _, fun _ _ => rfl⟩
theorem ext_grow (w : World) (os : Array Obj) : Ext w (Go.Sort.grow w os) := ⟨rfl, rfl, rfl, by simp, fun k hk => Go.Sort.heap_grow_old w os hk⟩
theorem putRow_setRow {w : World} {b : Nat} {e : TypeId} {cs : List Value} (hB : Blk w b e cs) (d : Array Int) : Go.Sort.putRow (Value.int .i64) w b 0 d = w.setRow b (Go.Sort.putCells (Value.int .i64) 0 d cs.toArray) := by
  have hB' : w.heap[b]? = some (.cells cs.toArray e (0, 0)) := hB
  unfold Go.Sort.putRow Go.Sort.mapBlock World.setRow
  congr 1
  apply Array.ext_getElem?
  intro k
  simp only [Array.getElem?_modify]
  by_cases hk : b = k
  · subst hk
    simp only [if_true, hB', Option.map_some]
    rfl
  · simp [hk]
theorem putCells_at {d : Array Int} {c : Array Value} {j : Nat} (hj : j < d.size) (hc : j < c.size) : (Go.Sort.putCells (Value.int .i64) 0 d c)[j]? = some (.int .i64 d[j]!) := by
  rw [Go.Sort.putCells, Array.getElem?_mapIdx, Array.getElem?_eq_getElem hc, Option.map_some, if_pos ⟨Nat.zero_le _, by omega⟩, Nat.sub_zero]
def srtI (xs : List Int) : List Int := xs.mergeSort fun x y => decide (x ≤ y)
theorem srtI_len {xs : List Int} : (srtI xs).length = xs.length := by unfold srtI; simp
section
variable {w0 : World} {L : List Osl}
theorem cx_sortI (m : Nat) {e : TypeId} {v : Value} {xs : List Int} (hm : L[m]? = some (.sl Int e pI xs v)) (hav : avAll L e) (hsz : xs.length ≤ 1048576) :
    CTX Try.prog 55 (Sep w0 L) [.inl v] (fun (_ : Unit) w' => Sep w0 (L.set m (.sl Int e pI (srtI xs) v)) w') (fun _ => .inl (.tuple #[])) := by
  intro w vs hC hk
  obtain ⟨u, rfl, rfl⟩ : ∃ u, vs = [u] ∧ u = v := by
    match vs, hk with
    | [u], hk => exact ⟨u, rfl, hk.1⟩
  have hC2 := hC
  unfold Sep at hC
  obtain ⟨Bs, hl, hc⟩ := hC
  have hml : m < Bs.length := by rw [hl]; exact (List.getElem?_eq_some_iff.1 hm).1
  have hbx := List.getElem?_eq_getElem hml
  obtain ⟨c, h1, ⟨p, h2, h2p⟩, h3, h4, h5, h6, h7⟩ := hc.fct m _ _ hm hbx
  generalize hX : Bs[m] = X at *
  obtain ⟨A, e', cs⟩ := X
  simp only at h1 h2 h2p h5 h6 h7
  subst h1 h2
  cases A with
  | none =>
    have hx : xs = [] := h6 rfl
    subst hx
    refine (Any.slices_Sort_int_none soLays p c w).mono fun en w' ⟨h8, h9⟩ => ?_
    subst h8 h9
    refine ⟨_, rfl, (), ?_, rfl⟩
    rw [show srtI [] = [] by simp [srtI], set_same' hm]
    exact hC2
  | some b =>
    obtain rfl := h2p.some_
    have hB : Blk w b e' cs := hc.get hbx
    have hcl : cs.length = c := by rw [h5]; exact Nat.mul_one c
    have hcell : ∀ (j : Nat) (z : Int), xs[j]? = some z → cs[j]? = some (.int .i64 z) := fun j z hz => by
      have h8 : (cs.drop (j * 1)).take 1 = [.int .i64 z] := h7 j z hz
      rw [Nat.mul_one] at h8
      have h9 : ((cs.drop j).take 1)[0]? = some (.int .i64 z) := by rw [h8]; rfl
      rw [List.getElem?_take_of_lt (by decide), List.getElem?_drop, Nat.add_zero] at h9
      exact h9
    have hH : Go.Sort.Holds (Value.int .i64) w b 0 xs.toArray := fun j hj => by
      have hj' : j < xs.length := by simpa using hj
      have h8 := hcell j _ (List.getElem?_eq_getElem hj')
      have h9 : xs.toArray[j]! = xs[j] := by simp [getElem!_pos, hj']
      refine ⟨by rw [Nat.zero_add, h9]; exact hB.cell h8, ?_⟩
      have hB' : w.heap[b]? = some (.cells cs.toArray e' (0, 0)) := hB
      simp [World.frozen?, hB']
    refine (Any.slices_Sort_int soLays b 0 c xs w hH hB.lt (by omega)).mono fun en w' ⟨h8, n, os, h9⟩ => ?_
    subst h8 h9
    refine ⟨_, rfl, (), ?_, rfl⟩
    have hc2 : Cls w0 Bs (FctL L Bs) (Go.Sort.ahead w n) := upC_cls upC_fct _ _ hc (ext_ahead w n)
    have hB2 : Blk (Go.Sort.ahead w n) b e' cs := hc2.get hbx
    have hsl : (srtI xs).length = xs.length := srtI_len
    refine upC_sep _ _ ?_ (ext_grow _ os)
    rw [putRow_setRow hB2]
    have hfin := sep_put (o' := .sl Int e' pI (srtI xs) (.slice (aOf (some b)) xs.length c)) (cs' := (Go.Sort.putCells (Value.int .i64) 0 (srtI xs).toArray cs.toArray).toList) hl hc2 hbx hav (fun w2 hs => ?_)
    · rw [Array.toArray_toList] at hfin
      exact hfin
    · refine ⟨c, rfl, ⟨aOf (some b), by rw [hsl], h2p⟩, by rw [hsl]; exact h3, h4, by simp [Go.Sort.putCells]; omega, (fun h => by cases h), fun j z hz => ?_⟩
      have hjl := (List.getElem?_eq_some_iff.1 hz).1
      show ((_ : List Value).drop (j * 1)).take 1 = [.int .i64 z]
      rw [Nat.mul_one]
      have h8 := putCells_at (d := (srtI xs).toArray) (c := cs.toArray) (j := j) (by simpa using hjl) (by simp; omega)
      have h9 : (srtI xs).toArray[j]! = z := by
        rw [List.getElem?_eq_getElem hjl] at hz
        injection hz with hz
        simp [getElem!_pos, hjl, hz]
      rw [h9] at h8
      apply List.ext_getElem?
      intro r
      rw [List.getElem?_take]
      split
      · obtain rfl : r = 0 := by omega
        rw [List.getElem?_drop, Nat.add_zero, Array.getElem?_toList, h8]
        rfl
      · rw [List.getElem?_eq_none]
        simp
        omega
end
end Go.Proofs.Ytanlaggnhocjhaa

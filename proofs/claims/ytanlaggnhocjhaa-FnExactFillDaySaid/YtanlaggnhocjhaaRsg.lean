/- Rosters in memory of one's own: rows changed; a new slice among named new blocks. -/
import Derived.Test.YtanlaggnhocjhaaRos4
import Derived.Test.YtanlaggnhocjhaaDpu
import Derived.Test.YtanlaggnhocjhaaDpo
import Derived.Test.YtanlaggnhocjhaaDtk
import Derived.Test.YtanlaggnhocjhaaDts
import Derived.Test.YtanlaggnhocjhaaDrn
namespace Go.Proofs.Ytanlaggnhocjhaa
set_option linter.unusedSimpArgs false
set_option linter.unusedVariables false
open Go.RowKit Go.ChangeShapes Go.WideShapes Go.ChangeAt Go.Deep
/-- Two drivers swap a day. -/
def swD (D : List (List Int)) (a b d : Int) : List (List Int) := (D.set a.toNat ((ix D a).set d.toNat (ix (ix D b) d))).set b.toNat ((ix D b).set d.toNat (ix (ix D a) d))
def swX (r : Ros) (a b d : Int) : Ros := { r with D := swD r.D a b d }
theorem swD_len {D : List (List Int)} {a b d : Int} : (swD D a b d).length = D.length := by simp [swD]
theorem ixL_set {D : List (List Int)} {i j : Int} {x : List Int} (hi : 0 ≤ i ∧ i < D.length) (hj : 0 ≤ j) : ix (D.set i.toNat x) j = if j = i then x else ix D j := by
  unfold ix
  rw [List.getD_eq_getElem?_getD, List.getD_eq_getElem?_getD]
  by_cases e : j = i
  · rw [if_pos e, e, List.getElem?_set_self (by omega)]; rfl
  · rw [if_neg e, List.getElem?_set_ne (by omega)]
theorem ixI_set {D : List Int} {i j : Int} {x : Int} (hi : 0 ≤ i ∧ i < D.length) (hj : 0 ≤ j) : ix (D.set i.toNat x) j = if j = i then x else ix D j := by
  unfold ix
  rw [List.getD_eq_getElem?_getD, List.getD_eq_getElem?_getD]
  by_cases e : j = i
  · rw [if_pos e, e, List.getElem?_set_self (by omega)]; rfl
  · rw [if_neg e, List.getElem?_set_ne (by omega)]
theorem swD_ix {D : List (List Int)} {a b d j : Int} (ha : 0 ≤ a ∧ a < D.length) (hb : 0 ≤ b ∧ b < D.length) (hj : 0 ≤ j) : ix (swD D a b d) j = if j = b then (ix D b).set d.toNat (ix (ix D a) d) else if j = a then (ix D a).set d.toNat (ix (ix D b) d) else ix D j := by
  unfold swD
  rw [ixL_set (by rw [List.length_set]; omega) hj]
  split
  · rfl
  · rw [ixL_set ha hj]
theorem swX_ok {r : Ros} {a b d : Int} (hv : rosB r = true) (ha : 0 ≤ a ∧ a < r.D.length) (hb : 0 ≤ b ∧ b < r.D.length) (hd : 0 ≤ d ∧ d < (ix r.D 0).length) : rosB (swX r a b d) = true := by
  obtain ⟨h0, h1, h2, h3⟩ := rosB_t.1 hv
  have hlen : ∀ j : Int, 0 ≤ j → j < r.D.length → (ix (swD r.D a b d) j).length = (ix r.D j).length := fun j hj _ => by
    rw [swD_ix ha hb hj]
    split
    · rename_i e; rw [List.length_set, e]
    · split
      · rename_i e; rw [List.length_set, e]
      · rfl
  have hrow : ∀ j : Int, 0 ≤ j → j < r.D.length → (ix r.D j).length = (ix r.D 0).length := fun j hj hjl => by
    have := (rwB_t.1 (h2 j.toNat (by omega))).2.1
    rwa [show ((j.toNat : Nat) : Int) = j by omega] at this
  have hval : ∀ j k : Int, 0 ≤ j ∧ j < r.D.length → 0 ≤ k ∧ k < (ix r.D 0).length → -1 ≤ ix (ix r.D j) k ∧ ix (ix r.D j) k ≤ (r.S.length : Int) - 1 := fun j k hj hk => ros_row hv hj (by rw [hrow j hj.1 hj.2]; exact hk)
  refine rosB_t.2 ⟨⟨h0.1, by show 1 ≤ ((swD r.D a b d).length : Int) ∧ ((swD r.D a b d).length : Int) ≤ 6; rw [swD_len]; exact h0.2⟩, h1, fun i hi => ?_, h3⟩
  have hi' : i < r.D.length := by rw [← swD_len (D := r.D) (a := a) (b := b) (d := d)]; exact hi
  have hr := rwB_t.1 (h2 i hi')
  refine rwB_t.2 ⟨?_, ?_, fun k hk => ?_⟩
  · show 1 ≤ ((ix (swD r.D a b d) (i : Int)).length : Int) ∧ ((ix (swD r.D a b d) (i : Int)).length : Int) ≤ 14
    rw [hlen _ (by omega) (by omega)]; exact hr.1
  · show (ix (swD r.D a b d) (i : Int)).length = (ix (swD r.D a b d) 0).length
    rw [hlen _ (by omega) (by omega), hlen 0 (by omega) (by omega)]; exact hr.2.1
  · have hk' : k < (ix r.D (i : Int)).length := by rw [← hlen (i : Int) (by omega) (by omega)]; exact hk
    have hk0 : (k : Int) < (ix r.D 0).length := by rw [← hrow (i : Int) (by omega) (by omega)]; omega
    have hab := hval a d ha hd
    have hbb := hval b d hb hd
    refine rwOk_t ?_
    show -1 ≤ ix (ix (swD r.D a b d) (i : Int)) (k : Int) ∧ ix (ix (swD r.D a b d) (i : Int)) (k : Int) ≤ (r.S.length : Int) - 1
    rw [swD_ix ha hb (by omega)]
    split
    · rw [ixI_set ⟨hd.1, by rw [hrow b hb.1 hb.2]; exact hd.2⟩ (by omega)]
      split
      · exact hab
      · exact hval b k hb ⟨by omega, hk0⟩
    · split
      · rw [ixI_set ⟨hd.1, by rw [hrow a ha.1 ha.2]; exact hd.2⟩ (by omega)]
        split
        · exact hbb
        · exact hval a k ha ⟨by omega, hk0⟩
      · exact hval i k ⟨by omega, by omega⟩ ⟨by omega, hk0⟩
/-- May they swap, and what comes of it. -/
def swI (r : Ros) (a b d : Int) : Bool := (rosB r && inB a 0 ((r.D.length : Int) - 1)) && inB b 0 ((r.D.length : Int) - 1) && !decide (a = b) && inB d 0 (((ix r.D 0).length : Int) - 1)
def swO (r : Ros) (a b d : Int) : Bool := swI r a b d && keB (swX r a b d) a && keB (swX r a b d) b
instance : Inhabited Rul := ⟨⟨0, 0, 0⟩⟩
def ros0 : Ros := ⟨[], ⟨0, 0, 0⟩, []⟩
def swR (r : Ros) (a b d : Int) : Ros := if swO r a b d then swX r a b d else ros0
theorem sw_n {r : Ros} {a b d : Int} (h : swO r a b d = false) : swR r a b d = ros0 := by rw [swR, h]; rfl
theorem sw_y {r : Ros} {a b d : Int} (h : swO r a b d = true) : swR r a b d = swX r a b d := by rw [swR, h]; rfl
end Go.Proofs.Ytanlaggnhocjhaa
namespace Go.Proofs.Ytanlaggnhocjhaa
open Go.RowKit Go.ChangeShapes Go.WideShapes Go.ChangeAt Go.Deep
/-- A driver gets a shift on a day. -/
def setR (r : Ros) (i d s : Int) : Ros := { r with D := r.D.set i.toNat ((ix r.D i).set d.toNat s) }
theorem setR_len {r : Ros} {i d s : Int} : (setR r i d s).D.length = r.D.length := by simp [setR]
theorem setR_ix {r : Ros} {i d s j : Int} (hi : 0 ≤ i ∧ i < r.D.length) (hj : 0 ≤ j) : ix (setR r i d s).D j = if j = i then (ix r.D i).set d.toNat s else ix r.D j := ixL_set hi hj
theorem setR_rl {r : Ros} {i d s j : Int} (hi : 0 ≤ i ∧ i < r.D.length) (hj : 0 ≤ j) : (ix (setR r i d s).D j).length = (ix r.D j).length := by
  rw [setR_ix hi hj]
  split
  · rename_i e; rw [List.length_set, e]
  · rfl
theorem ros_rl {r : Ros} (hv : rosB r = true) {j : Int} (hj : 0 ≤ j) (hjl : j < r.D.length) : (ix r.D j).length = (ix r.D 0).length := by
  have := (rwB_t.1 ((rosB_t.1 hv).2.2.1 j.toNat (by omega))).2.1
  rwa [show ((j.toNat : Nat) : Int) = j by omega] at this
theorem setR_ok {r : Ros} {i d s : Int} (hv : rosB r = true) (hi : 0 ≤ i ∧ i < r.D.length) (hd : 0 ≤ d ∧ d < (ix r.D 0).length) (hs : -1 ≤ s ∧ s ≤ (r.S.length : Int) - 1) : rosB (setR r i d s) = true := by
  obtain ⟨h0, h1, h2, h3⟩ := rosB_t.1 hv
  refine rosB_t.2 ⟨⟨h0.1, by rw [setR_len]; exact h0.2⟩, h1, fun j hj => ?_, h3⟩
  have hj' : j < r.D.length := by rw [← setR_len (r := r) (i := i) (d := d) (s := s)]; exact hj
  have hr := rwB_t.1 (h2 j hj')
  refine rwB_t.2 ⟨?_, ?_, fun k hk => ?_⟩
  · rw [setR_rl hi (by omega)]; exact hr.1
  · rw [setR_rl hi (by omega), setR_rl hi (by omega)]; exact hr.2.1
  · have hk' : k < (ix r.D (j : Int)).length := by rw [← setR_rl (r := r) (i := i) (d := d) (s := s) hi (by omega)]; exact hk
    have hk0 : (k : Int) < (ix r.D 0).length := by rw [← ros_rl hv (j := (j : Int)) (by omega) (by omega)]; omega
    refine rwOk_t ?_
    show -1 ≤ ix (ix (setR r i d s).D (j : Int)) (k : Int) ∧ ix (ix (setR r i d s).D (j : Int)) (k : Int) ≤ (r.S.length : Int) - 1
    rw [setR_ix hi (by omega)]
    split
    · rw [ixI_set ⟨hd.1, by rw [ros_rl hv hi.1 hi.2]; exact hd.2⟩ (by omega)]
      split
      · exact hs
      · exact ros_row hv hi ⟨by omega, by rw [ros_rl hv hi.1 hi.2]; exact hk0⟩
    · exact ros_row hv ⟨by omega, by omega⟩ ⟨by omega, by omega⟩
theorem ix_self_set {D : List Int} {d s : Int} (hd : 0 ≤ d ∧ d < D.length) (h : ix D d = s) : D.set d.toNat s = D := by
  subst h
  apply List.ext_getElem?
  intro k
  rw [List.getElem?_set]
  split
  · rename_i e
    subst e
    rw [if_pos (by omega), ← ix_get hd.1 hd.2]
  · rfl
theorem ixL_self_set {D : List (List Int)} {i : Int} {x : List Int} (hi : 0 ≤ i ∧ i < D.length) (h : ix D i = x) : D.set i.toNat x = D := by
  subst h
  apply List.ext_getElem?
  intro k
  rw [List.getElem?_set]
  split
  · rename_i e
    subst e
    rw [if_pos (by omega), ← ix_get hi.1 hi.2]
  · rfl
/-- Set, and set back. -/
theorem setR_back {r : Ros} {i d s t : Int} (hi : 0 ≤ i ∧ i < r.D.length) (hd : 0 ≤ d ∧ d < (ix r.D i).length) (h : ix (ix r.D i) d = t) : setR (setR r i d s) i d t = r := by
  unfold setR
  simp only
  have e1 : ix (r.D.set i.toNat ((ix r.D i).set d.toNat s)) i = (ix r.D i).set d.toNat s := by rw [ixL_set hi hi.1, if_pos rfl]
  rw [e1, List.set_set, List.set_set, ix_self_set hd h, ixL_self_set hi rfl]
/-- All that a driver works. -/
def wkT (r : Ros) (a : Int) : Int := wkS r a 0 (ix r.D a).length
theorem wkT_bd {r : Ros} {a : Int} (hv : rosB r = true) (ha : 0 ≤ a ∧ a < r.D.length) : 0 ≤ wkT r a ∧ wkT r a ≤ 1799 * 14 := by
  have h := wkS_bd hv ha (s := 0) (k := (ix r.D a).length) (by omega)
  have h2 := ros_n hv ha
  unfold wkT
  omega
/-- The shifts that nobody has on a day. -/
def msH (r : Ros) (d s : Int) : Nat → Bool
  | 0 => false
  | i + 1 => msH r d s i || decide (ix (ix r.D (i : Int)) d = s)
def msG (r : Ros) (d : Int) : Nat → List Int
  | 0 => []
  | s + 1 => if msH r d (s : Int) r.D.length then msG r d s else msG r d s ++ [(s : Int)]
def msL (r : Ros) (d : Int) : List Int := msG r d r.S.length
theorem msG_y {r : Ros} {d : Int} {s : Nat} (h : msH r d (s : Int) r.D.length = true) : msG r d (s + 1) = msG r d s := by rw [msG, if_pos h]
theorem msG_n {r : Ros} {d : Int} {s : Nat} (h : msH r d (s : Int) r.D.length = false) : msG r d (s + 1) = msG r d s ++ [(s : Int)] := by rw [msG, if_neg (by rw [h]; decide)]
theorem msG_len {r : Ros} {d : Int} : ∀ {s : Nat}, (msG r d s).length ≤ s
  | 0 => Nat.le_refl _
  | s + 1 => by
    have := msG_len (r := r) (d := d) (s := s)
    rw [msG]
    split
    · omega
    · rw [List.length_append, List.length_singleton]; omega
theorem msG_mem {r : Ros} {d x : Int} : ∀ {s : Nat}, x ∈ msG r d s → 0 ≤ x ∧ x < s
  | 0, h => by simp [msG] at h
  | s + 1, h => by
    rw [msG] at h
    split at h
    · have := msG_mem h; omega
    · rcases List.mem_append.1 h with h | h
      · have := msG_mem h; omega
      · have := List.mem_singleton.1 h; omega
theorem msL_ix {r : Ros} {d : Int} {k : Nat} (hk : k < (msL r d).length) : 0 ≤ ix (msL r d) (k : Int) ∧ ix (msL r d) (k : Int) ≤ (r.S.length : Int) - 1 := by
  have h : ix (msL r d) (k : Int) ∈ msL r d := by rw [ix_elem hk]; exact List.getElem_mem hk
  have := msG_mem h
  omega
/-- Who gets it, and what he works. -/
def fdB (r : Ros) (d s : Int) : Nat → Int × Int
  | 0 => (-1, 0)
  | i + 1 => if ix (ix r.D (i : Int)) d < 0 ∧ keB (setR r (i : Int) d s) (i : Int) = true ∧ ((fdB r d s i).1 < 0 ∨ wkT r (i : Int) < (fdB r d s i).2) then ((i : Int), wkT r (i : Int)) else fdB r d s i
theorem fdB_y {r : Ros} {d s : Int} {i : Nat} (h : ix (ix r.D (i : Int)) d < 0) (h1 : keB (setR r (i : Int) d s) (i : Int) = true) (h2 : (fdB r d s i).1 < 0 ∨ wkT r (i : Int) < (fdB r d s i).2) : fdB r d s (i + 1) = ((i : Int), wkT r (i : Int)) := by rw [fdB, if_pos ⟨h, h1, h2⟩]
theorem fdB_n {r : Ros} {d s : Int} {i : Nat} (h : ¬ (ix (ix r.D (i : Int)) d < 0 ∧ keB (setR r (i : Int) d s) (i : Int) = true ∧ ((fdB r d s i).1 < 0 ∨ wkT r (i : Int) < (fdB r d s i).2))) : fdB r d s (i + 1) = fdB r d s i := by rw [fdB, if_neg h]
theorem fdB_n1 {r : Ros} {d s : Int} {i : Nat} (h : ¬ ix (ix r.D (i : Int)) d < 0) : fdB r d s (i + 1) = fdB r d s i := fdB_n fun hh => h hh.1
theorem fdB_n2 {r : Ros} {d s : Int} {i : Nat} (h : keB (setR r (i : Int) d s) (i : Int) = false) : fdB r d s (i + 1) = fdB r d s i := fdB_n fun hh => by rw [h] at hh; cases hh.2.1
theorem fdB_n3 {r : Ros} {d s : Int} {i : Nat} (h1 : ¬ (fdB r d s i).1 < 0) (h2 : ¬ wkT r (i : Int) < (fdB r d s i).2) : fdB r d s (i + 1) = fdB r d s i := fdB_n fun hh => by rcases hh.2.2 with h | h <;> omega
theorem fdB_bd {r : Ros} {d s : Int} : ∀ {i : Nat}, -1 ≤ (fdB r d s i).1 ∧ (fdB r d s i).1 < i ∧ (0 ≤ (fdB r d s i).1 → ix (ix r.D (fdB r d s i).1) d < 0 ∧ (fdB r d s i).2 = wkT r (fdB r d s i).1)
  | 0 => by simp [fdB]
  | i + 1 => by
    have h := fdB_bd (r := r) (d := d) (s := s) (i := i)
    rw [fdB]
    split
    · rename_i hh
      exact ⟨by simp only; omega, by simp only; omega, fun _ => ⟨hh.1, rfl⟩⟩
    · exact ⟨h.1, by omega, h.2.2⟩
/-- The roster, and the shifts that are left. -/
def fdG (r : Ros) (d : Int) (ms : List Int) : Nat → Ros × List Int
  | 0 => (r, [])
  | k + 1 => if (fdB (fdG r d ms k).1 d (ix ms (k : Int)) r.D.length).1 < 0 then ((fdG r d ms k).1, (fdG r d ms k).2 ++ [ix ms (k : Int)]) else (setR (fdG r d ms k).1 (fdB (fdG r d ms k).1 d (ix ms (k : Int)) r.D.length).1 d (ix ms (k : Int)), (fdG r d ms k).2)
theorem fdG_l {r : Ros} {d : Int} {ms : List Int} {k : Nat} (h : (fdB (fdG r d ms k).1 d (ix ms (k : Int)) r.D.length).1 < 0) : fdG r d ms (k + 1) = ((fdG r d ms k).1, (fdG r d ms k).2 ++ [ix ms (k : Int)]) := by rw [fdG, if_pos h]
theorem fdG_s {r : Ros} {d : Int} {ms : List Int} {k : Nat} (h : ¬ (fdB (fdG r d ms k).1 d (ix ms (k : Int)) r.D.length).1 < 0) : fdG r d ms (k + 1) = (setR (fdG r d ms k).1 (fdB (fdG r d ms k).1 d (ix ms (k : Int)) r.D.length).1 d (ix ms (k : Int)), (fdG r d ms k).2) := by rw [fdG, if_neg h]
structure FdI (r q : Ros) : Prop where
  v : rosB q = true
  s : q.S = r.S
  l : q.D.length = r.D.length
  n : (ix q.D 0).length = (ix r.D 0).length
  u : q.R = r.R
theorem fdG_I {r : Ros} {d : Int} (hv : rosB r = true) (hd : 0 ≤ d ∧ d < (ix r.D 0).length) : ∀ {k : Nat}, k ≤ (msL r d).length → FdI r (fdG r d (msL r d) k).1
  | 0, _ => ⟨hv, rfl, rfl, rfl, rfl⟩
  | k + 1, hk => by
    have h := fdG_I hv hd (k := k) (by omega)
    by_cases hb : (fdB (fdG r d (msL r d) k).1 d (ix (msL r d) (k : Int)) r.D.length).1 < 0
    · rw [fdG_l hb]; exact h
    · rw [fdG_s hb]
      have hbd := fdB_bd (r := (fdG r d (msL r d) k).1) (d := d) (s := ix (msL r d) (k : Int)) (i := r.D.length)
      have hms := msL_ix (r := r) (d := d) (k := k) (by omega)
      have hl := h.l
      have hn := h.n
      have hss := congrArg List.length h.s
      refine ⟨setR_ok h.v ⟨by omega, by omega⟩ ⟨hd.1, by omega⟩ ⟨by omega, by omega⟩, h.s, by rw [setR_len]; exact hl, by rw [setR_rl ⟨by omega, by omega⟩ (by omega)]; exact hn, h.u⟩
theorem fdG_len {r : Ros} {d : Int} {ms : List Int} : ∀ {k : Nat}, (fdG r d ms k).2.length ≤ k
  | 0 => Nat.le_refl _
  | k + 1 => by
    have := fdG_len (r := r) (d := d) (ms := ms) (k := k)
    rw [fdG]
    split
    · simp only [List.length_append, List.length_singleton]; omega
    · simp only; omega
def fdI (r : Ros) (d : Int) : Bool := rosB r && inB d 0 (((ix r.D 0).length : Int) - 1)
def fdR (r : Ros) (d : Int) : Ros := if fdI r d then (fdG r d (msL r d) (msL r d).length).1 else ros0
def fdL (r : Ros) (d : Int) : List Int := if fdI r d then (fdG r d (msL r d) (msL r d).length).2 else []
theorem fdI_t {r : Ros} {d : Int} (hv : rosB r = true) (hd : 0 ≤ d ∧ d < (ix r.D 0).length) : fdI r d = true := by
  rw [fdI, hv, Bool.true_and, inB_t]
  omega
theorem fdI_f {r : Ros} {d : Int} (hd : ¬ (0 ≤ d ∧ d < (ix r.D 0).length)) : fdI r d = false := by
  have : inB d 0 (((ix r.D 0).length : Int) - 1) = false := (inB_f _ _ _).mpr (by omega)
  rw [fdI, this, Bool.and_false]
theorem fdI_f0 {r : Ros} {d : Int} (hv : rosB r = false) : fdI r d = false := by rw [fdI, hv]; rfl
theorem fdR_n {r : Ros} {d : Int} (h : fdI r d = false) : fdR r d = ros0 := by rw [fdR, h]; rfl
theorem fdL_n {r : Ros} {d : Int} (h : fdI r d = false) : fdL r d = [] := by rw [fdL, h]; rfl
theorem fdR_y {r : Ros} {d : Int} (h : fdI r d = true) : fdR r d = (fdG r d (msL r d) (msL r d).length).1 := by rw [fdR, h]; rfl
theorem fdL_y {r : Ros} {d : Int} (h : fdI r d = true) : fdL r d = (fdG r d (msL r d) (msL r d).length).2 := by rw [fdL, h]; rfl
end Go.Proofs.Ytanlaggnhocjhaa
namespace Go.Proofs.Ytanlaggnhocjhaa
open Go.RowKit Go.ChangeShapes Go.WideShapes Go.ChangeAt Go.Deep
section
variable {P : Program} {ops : Array Oper} {C : World → Prop} {Q : Exit → Act → World → Prop} {N : Nat} {M : List (Nat × Pr) → List Oper → Prop} {K : List (Nat × Pr)} {rest : List Oper} {d : Nat} {ty : TypeId} {pos : String} {af : Array Edge} {g : Option (Nat × Bool)}
theorem W_build3V (hM : Stepper P ops C N M) {x0 x1 x2 : Operand} {v0 v1 v2 : Value} {t : TypeId} (cs : List Value) (h0 : kn K x0 = some (.inl v0)) (h1 : kn K x1 = some (.inl v1)) (h2 : kn K x2 = some (.inl v2))
    (hb : P.built t [(0, v0), (1, v1), (2, v2)] = some cs.toArray) (hg : wantedK ops K g = some true) (hN : Nat.blt d N = true)
    (h : M ((d, .inl (.agg cs.toArray)) :: K) rest) : M K (⟨some d, .build t #[(0, x0), (1, x1), (2, x2)], ty, pos, af, g⟩ :: rest) :=
  W_val hM hN hg (fun ρ w _ hk => by
    have e0 : ρ x0 = v0 := hk x0 (by simp [Op.operands]) _ h0
    have e1 : ρ x1 = v1 := hk x1 (by simp [Op.operands]) _ h1
    have e2 : ρ x2 = v2 := hk x2 (by simp [Op.operands]) _ h2
    have hr := Go.run_build (P := P) w t #[(0, v0), (1, v1), (2, v2)] cs.toArray hb
    simp [execOp, e0, e1, e2, hr]) h
theorem Sq_detAr (t : Nat) {α : Type} {Ψ : Phi α} {z : α} {cs : List Value} {l : List Oper} (ht : lookK K t = some (.inr (uA Ψ z))) (hd : ∀ c w, Ψ.φ z c w → c = cs) (h : Sq P ops N C Q ((t, .inl (.agg cs.toArray)) :: K) l) : Sq P ops N C Q K l := by
  unfold Sq at h ⊢
  intro a w hst
  refine h a w ⟨hst.size, hst.defers, fun s p hp => ?_, hst.cls⟩
  by_cases e : t = s
  · subst e
    rw [lookK_same] at hp
    injection hp with hp
    subst hp
    obtain ⟨v, hv, c, rfl, hc⟩ := hst.slots t _ ht
    have := hd c w hc
    subst this
    exact ⟨_, hv, rfl⟩
  · rw [lookK_ne _ e] at hp
    exact hst.slots s p hp
end
theorem flSpn : Flat pSpn := by repeat (first | exact flat_nil | exact flat_I | exact flat_B | refine flat_cat ?_ ?_)
theorem pRul_c {x : Rul} {c : List Value} {w : World} (h : pRul.φ x c w) : c = [.int .i64 x.A, .int .i64 x.B, .int .i64 x.C] := by
  obtain ⟨c1, r1, rfl, rfl, c2, r2, rfl, rfl, c3, r3, rfl, rfl, rfl⟩ := h
  rfl
theorem pRul_i (x : Rul) (w : World) : pRul.φ x [.int .i64 x.A, .int .i64 x.B, .int .i64 x.C] w := ⟨[_], _, rfl, rfl, [_], _, rfl, rfl, [_], _, rfl, rfl, rfl⟩
def rsL (r : Ros) (vS vD : Value) (vs : List Value) : List Osl := .sl Spn 71 pSpn r.S vS :: .sl Value 39 pV vs vD :: rowsZ r.D vs
theorem rsL_row {r : Ros} {vS vD : Value} {vs : List Value} {L0 : List Osl} {i : Nat} (hl : vs.length = r.D.length) (hi : i < r.D.length) : (rsL r vS vD vs ++ L0)[i + 2]? = some (.sl Int 3 pI (ix r.D i) (ix vs i)) := by
  have h := rowsZ_get (ls := r.D) (vs := vs) (i := i) hl.symm hi
  have h2 : (rsL r vS vD vs)[i + 2]? = some (.sl Int 3 pI (ix r.D i) (ix vs i)) := h
  rw [List.getElem?_append_left (List.getElem?_eq_some_iff.1 h2).1]
  exact h2
theorem Sep.rosD {w0 w : World} {r : Ros} {vS vD : Value} {vs : List Value} {L0 : List Osl} (h : Sep w0 (rsL r vS vD vs ++ L0) w) (hl : vs.length = r.D.length) : IsS (some 39) (pS (some 3) pI) r.D vD w :=
  isS_rows hl.symm (h.isS (m := 1) rfl) fun i hi => h.isS (rsL_row hl hi)
theorem Sep.ros {w0 w : World} {r : Ros} {vS vD : Value} {vs : List Value} {L0 : List Osl} (h : Sep w0 (rsL r vS vD vs ++ L0) w) (hl : vs.length = r.D.length) : (uA bRos r).R (.agg (([vS, .int .i64 r.R.A, .int .i64 r.R.B, .int .i64 r.R.C, vD] : List Value)).toArray) w :=
  ⟨[vS, .int .i64 r.R.A, .int .i64 r.R.B, .int .i64 r.R.C, vD], rfl, [vS], _, rfl, ⟨_, rfl, h.isS (m := 0) rfl⟩, [.int .i64 r.R.A, .int .i64 r.R.B, .int .i64 r.R.C], _, rfl, pRul_i _ _, [vD], _, rfl, ⟨_, rfl, h.rosD hl⟩, rfl⟩
theorem avAll_rs {r : Ros} {vS vD : Value} {vs : List Value} {L0 : List Osl} {t : TypeId} (h : avAll L0 t) : avAll (rsL r vS vD vs ++ L0) t := avAll.app (L := rsL r vS vD vs) ⟨⟨trivial, trivial, trivial⟩, trivial, avAll_rows⟩ h
theorem cg_cloneSpn {e : Option TypeId} (xs : List Spn) (hb : xs.length ≤ 1048576) : CTG Try.prog 63 [.inr (uS e pSpn xs)] (fun s => .inr (uO s (oF 71 pSpn flSpn) xs)) := by
  refine CTG_of Try.func63 rfl rfl rfl (fun w s hs => ?_)
  refine H_open 0 rfl (fun q u0 hw hr0 => ?_)
  obtain ⟨A, n, c, rfl, hn, hnc, hcm, hall⟩ := id hr0
  have hE : Ext w q := hw
  have hC := upC_ext q
  cases A with
  | none =>
    have hx0 : xs = [] := by
      cases xs with
      | nil => rfl
      | cons z zs =>
        obtain ⟨b, o, cs, hA, _⟩ := hall 0 z rfl
        cases hA
    try any_goals (first | (refine H_seq ?_; try refine H_reg ?_) | refine H_reg ?_)
    try any_goals (refine W_assign (d := 2) (sq_stepper hC) rfl rfl rfl ?_)
    try any_goals (first | (refine Sq_nil ?_; try refine G_then ?_) | refine G_then ?_)
    try any_goals (refine H_seq ?_)
    try any_goals (first | (refine H_seq ?_; try refine H_reg ?_) | refine H_reg ?_)
    try any_goals (refine W_move (d := 3) (sq_stepper hC) rfl rfl rfl ?_)
    try any_goals (first | refine W_eqlNilV (d := 4) (sq_stepper hC) (e := 71) Try.underlying29 rfl rfl rfl rfl ?_ | refine W_cmp (d := 4) (sq_stepper hC) rfl rfl rfl rfl rfl ?_ | refine W_eqlStr (d := 4) (sq_stepper hC) rfl rfl rfl rfl ?_ | refine W_eqlB (d := 4) (sq_stepper hC) rfl rfl Try.underlying4 rfl rfl ?_)
    try any_goals (first | (refine Sq_nil ?_; try refine G_then ?_) | refine G_then ?_)
    try any_goals (first | refine H_condT rfl ?_ | refine H_condF rfl ?_ | (refine H_cond _ rfl (fun hq => ?_) (fun hq => ?_) <;> (try simp only [hqs, reduceCtorEq] at hq)))
    try any_goals (first | (refine H_seq ?_; try refine H_reg ?_) | refine H_reg ?_)
    try any_goals (refine W_assign (d := 2) (sq_stepper hC) rfl rfl rfl ?_)
    try any_goals (first | (refine Sq_nil ?_; try refine G_then ?_) | refine G_then ?_)
    try any_goals (refine H_ret ?_)
    repeat (any_goals (first | refine G_ret_then ?_ | refine G_ret_block ?_))
    try any_goals (refine H_skip ?_)
    try any_goals (refine G_then ?_)
    try any_goals (first | (refine H_seq ?_; try refine H_reg ?_) | refine H_reg ?_)
    try any_goals (refine W_buildS (d := 5) (sq_stepper hC) [] pI [] (e := 71) (by kernel_rfl) (by kernel_rfl) rfl rfl (by kernel_rfl) rfl rfl rfl trivial ?_)
    try any_goals (refine W_move (d := 6) (sq_stepper hC) rfl rfl rfl ?_)
    try any_goals (fail)
    try any_goals (refine W_assign (d := 2) (sq_stepper hC) rfl rfl rfl ?_)
    try any_goals (first | (refine Sq_nil ?_; try refine G_then ?_) | refine G_then ?_)
    try any_goals (refine H_ret ?_)
    repeat (any_goals (first | refine G_ret_then ?_ | refine G_ret_block ?_))
    all_goals exact R1 rfl (fun _ h => hE.trans h) rfl (fun v w' _ hv => by rw [show v = _ from hv, hx0]; exact nil_OS)
  | some a =>
    refine H_weakenC (C' := Sep q []) (fun w' h => sep_start h) ?_
    have hC : UpC (Sep q []) := upC_sep
    try any_goals (first | (refine H_seq ?_; try refine H_reg ?_) | refine H_reg ?_)
    try any_goals (refine W_assign (d := 2) (sq_stepper upC_sep) rfl rfl rfl ?_)
    try any_goals (first | (refine Sq_nil ?_; try refine G_then ?_) | refine G_then ?_)
    try any_goals (refine H_seq ?_)
    try any_goals (first | (refine H_seq ?_; try refine H_reg ?_) | refine H_reg ?_)
    try any_goals (refine W_move (d := 3) (sq_stepper upC_sep) rfl rfl rfl ?_)
    try any_goals (first | refine W_eqlNilV (d := 4) (sq_stepper upC_sep) (e := 71) Try.underlying29 rfl rfl rfl rfl ?_ | refine W_cmp (d := 4) (sq_stepper upC_sep) rfl rfl rfl rfl rfl ?_ | refine W_eqlStr (d := 4) (sq_stepper upC_sep) rfl rfl rfl rfl ?_ | refine W_eqlB (d := 4) (sq_stepper upC_sep) rfl rfl Try.underlying4 rfl rfl ?_)
    try any_goals (first | (refine Sq_nil ?_; try refine G_then ?_) | refine G_then ?_)
    try any_goals (first | refine H_condT rfl ?_ | refine H_condF rfl ?_ | (refine H_cond _ rfl (fun hq => ?_) (fun hq => ?_) <;> (try simp only [hqs, reduceCtorEq] at hq)))
    try any_goals (first | (refine H_seq ?_; try refine H_reg ?_) | refine H_reg ?_)
    try any_goals (refine W_assign (d := 2) (sq_stepper upC_sep) rfl rfl rfl ?_)
    try any_goals (first | (refine Sq_nil ?_; try refine G_then ?_) | refine G_then ?_)
    try any_goals (refine H_ret ?_)
    repeat (any_goals (first | refine G_ret_then ?_ | refine G_ret_block ?_))
    try any_goals (refine H_skip ?_)
    try any_goals (refine G_then ?_)
    try any_goals (first | (refine H_seq ?_; try refine H_reg ?_) | refine H_reg ?_)
    try any_goals ((refine Sq_buildS (d := 5) [] pSpn [] (e := 71) (by kernel_rfl) (by kernel_rfl) rfl rfl (by kernel_rfl) rfl rfl trivial rfl (fun v5 => ?_)))
    try any_goals (first | refine W_moveR (d := 6) (sq_stepper upC_sep) (U := uS e pSpn xs) (fun w' h => UR.lift (Sep.ext h) hr0) rfl rfl rfl ?_ | refine W_move (d := 6) (sq_stepper upC_sep) rfl rfl rfl ?_)
    try any_goals ((refine Sq_appSZ (d := 7) 0 (Ψ := pSpn) rfl (by repeat (first | exact trivial | refine ⟨?_, ?_⟩)) (by kernel_rfl) (by kernel_rfl) rfl rfl rfl (by simp only [List.length_nil]; omega) (fun va => ?_)))
    try any_goals (refine W_assign (d := 2) (sq_stepper upC_sep) rfl rfl rfl ?_)
    try any_goals (first | (refine Sq_nil ?_; try refine G_then ?_) | refine G_then ?_)
    try any_goals (refine H_ret ?_)
    repeat (any_goals (first | refine G_ret_then ?_ | refine G_ret_block ?_))
    all_goals exact R1 rfl (fun _ h => hE.trans h.ext) rfl (fun v w' hc hv => by rw [show v = _ from hv]; exact hc.isO (m := 0) rfl (Nat.le_trans hs hE.size))
theorem cx_cloneSpn {e : Option TypeId} (xs : List Spn) (hb : xs.length ≤ 1048576) (w1 : World) : CTX Try.prog 63 (fun u => u = w1) [.inr (uS e pSpn xs)] (fun (y : Value) w' => Sep w1 [.sl Spn 71 pSpn xs y] w' ∧ True) (fun y => .inl y) := ctg_ctx (cg_cloneSpn xs hb) w1
theorem rs_one {r : Ros} {w0 w : World} {vS vD : Value} {vs : List Value} {L0 : List Osl} (h : Sep w0 (rsL r vS vD vs ++ L0) w) : ∀ u ∈ [vS, .int .i64 r.R.A, .int .i64 r.R.B, .int .i64 r.R.C, vD], u.oneCell' = true := by
  intro u hu
  obtain ⟨A, c, cs, ⟨p, h1, _⟩, _⟩ := h.get (m := 0) (Ψ := pSpn) (xs := r.S) (v := vS) (e := 71) rfl
  obtain ⟨A2, c2, cs2, ⟨p2, h2, _⟩, _⟩ := h.get (m := 1) (Ψ := pV) (xs := vs) (v := vD) (e := 39) rfl
  simp only [List.mem_cons, List.not_mem_nil, or_false] at hu
  rcases hu with rfl | rfl | rfl | rfl | rfl
  · rw [h1]; rfl
  · rfl
  · rfl
  · rfl
  · rw [h2]; rfl
theorem cx_copyRos (r : Ros) (hf : RosF r) (w : World) : CTX Try.prog 33 (fun u => u = w) [.inr (uA bRos r)]
    (fun (y : Value × Value × List Value) w' => Sep w (rsL r y.1 y.2.1 y.2.2) w' ∧ y.2.2.length = r.D.length) (fun y => .inl (.agg (([y.1, .int .i64 r.R.A, .int .i64 r.R.B, .int .i64 r.R.C, y.2.1] : List Value)).toArray)) := by
  have hs := hf.s
  have ht := hf.d
  have ha := hf.a
  refine CTX_of Try.func33 rfl rfl rfl ?_
  refine H_weakenC (C' := Sep w []) (fun w1 h => by subst h; exact sep_start (Ext.refl _)) ?_
  have hC : UpC (Sep w []) := upC_sep
  try any_goals (first | (refine H_seq ?_; try refine H_reg ?_) | refine H_reg ?_)
  try any_goals (refine W_boxA (d := 1) (sq_stepper upC_sep) rfl rfl rfl ?_)
  try any_goals (refine Sq_allocS (d := 2) (n := 5) (by kernel_rfl) rfl (fun g2 cs2 hcs2 => ?_))
  try any_goals (first | (refine Sq_nil ?_; try refine G_then ?_) | refine G_then ?_)
  try any_goals (refine H_seq ?_)
  try any_goals (refine H_pinR 1 (fun wr hS => ?_))
  try any_goals (refine H_drawR [0, 1, 2, 3, 4, 5, 6, 7] [8, 9] (by kernel_rfl) (by kernel_rfl) (upC_ext _) ?_)
  try any_goals (first | refine W_fieldG (d := 3) (wkR_stepper (upC_ext _)) (Proj.head _ _ _) (by kernel_rfl) rfl rfl rfl ?_ | refine W_fieldC (d := 3) (wkR_stepper (upC_ext _)) (off := 0) (by kernel_rfl) rfl rfl rfl ?_)
  try any_goals (refine W_loadS (d := 4) (wkR_stepper (upC_ext _)) (by kernel_rfl) rfl rfl rfl ?_)
  try any_goals (refine WR_ctx0 (cx_cloneSpn r.S hs) rfl rfl (by kernel_rfl) ?_)
  try any_goals (first | refine W_fieldG (d := 6) (wkR_stepper (upC_ext _)) (Proj.tail _ _ (Proj.head _ _ _)) (by kernel_rfl) rfl rfl rfl ?_ | refine W_fieldC (d := 6) (wkR_stepper (upC_ext _)) (off := 1) (by kernel_rfl) rfl rfl rfl ?_)
  try any_goals (refine W_loadA (d := 7) (wkR_stepper (upC_ext _)) (by kernel_rfl) rfl rfl rfl ?_)
  try any_goals (first | refine W_fieldG (d := 8) (wkR_stepper (upC_ext _)) (Proj.tail _ _ (Proj.tail _ _ (Proj.head _ _ _))) (by kernel_rfl) rfl rfl rfl ?_ | refine W_fieldC (d := 8) (wkR_stepper (upC_ext _)) (off := 2) (by kernel_rfl) rfl rfl rfl ?_)
  try any_goals (refine W_loadS (d := 9) (wkR_stepper (upC_ext _)) (by kernel_rfl) rfl rfl rfl ?_)
  try any_goals (refine WR_ctxJ 5 (List.Mem.head _) (by kernel_rfl) (by kernel_rfl) (cx_copyL r.D ht ha) rfl rfl (by kernel_rfl) ?_)
  try any_goals (refine WR_nil ?_)
  try any_goals (refine SqR_open 10 hS (List.Mem.head _) (fun y hy => ?_); obtain ⟨⟨v8, vs⟩, v5⟩ := y; have hvl : vs.length = r.D.length := hy.1; refine Sq_weaken (C' := Sep w (rsL r v5 v8 vs ++ [.raw 32 g2 cs2])) (fun w' h => h.perm (by simp only [rsL, List.append_assoc, List.cons_append, List.nil_append, List.map_cons, List.map_nil]; exact (List.perm_middle (l₁ := .sl Value _ pV vs v8 :: rowsZ r.D vs)))) ?_)
  try any_goals (refine Sq_slE 0 (v := v5) rfl (fun p5 c5 hv5 => ?_); refine Sq_slE 1 (v := v8) rfl (fun p8 c8 hv8 => ?_); subst hv5 hv8; refine Sq_detAr 7 (cs := [.int .i64 r.R.A, .int .i64 r.R.B, .int .i64 r.R.C]) rfl (fun c w h => pRul_c h) ?_; refine W_build3V (d := 11) (sq_stepper upC_sep) [.slice p5 r.S.length c5, .int .i64 r.R.A, .int .i64 r.R.B, .int .i64 r.R.C, .slice p8 vs.length c8] rfl rfl rfl (by kernel_rfl) rfl rfl ?_)
  try any_goals (refine Sq_cls (fun wq hq => ?_); refine Sq_storeRaw (rsL r (.slice p5 r.S.length c5) (.slice p8 vs.length c8) vs).length (e := 32) (b := g2) (k := 5) (vs := [.slice p5 r.S.length c5, .int .i64 r.R.A, .int .i64 r.R.B, .int .i64 r.R.C, .slice p8 vs.length c8]) (cs := cs2) (by simp) (avAll_rs ⟨trivial, trivial⟩) (by kernel_rfl) rfl rfl rfl (raw_ag (rs_one hq)) (by rw [hcs2]; exact Nat.le_refl _) ?_)
  try any_goals (first | (refine Sq_nil ?_; try refine G_then ?_) | refine G_then ?_)
  try any_goals (refine H_ret ?_)
  repeat (any_goals (first | refine G_ret_then ?_ | refine G_ret_block ?_))
  all_goals (rw [set_last rfl, putL_all (by rw [hcs2]; rfl)])
  all_goals first
    | exact RcellX (rsL r (.slice p5 r.S.length c5) (.slice p8 vs.length c8) vs).length (b := g2) (cs := [.slice p5 r.S.length c5, .int .i64 r.R.A, .int .i64 r.R.B, .int .i64 r.R.C, .slice p8 vs.length c8]) (k := 5) rfl (by kernel_rfl) rfl get_last rfl (fun w' hc => ⟨(_, _, vs), ⟨hc.appL, hvl⟩, rfl⟩)
    | trace_state
end Go.Proofs.Ytanlaggnhocjhaa
namespace Go.Proofs.Ytanlaggnhocjhaa
open Go.RowKit Go.ChangeShapes Go.WideShapes Go.ChangeAt Go.Deep
section
variable {P : Program} {ops : Array Oper} {C : World → Prop} {Q : Exit → Act → World → Prop} {N : Nat} {K : List (Nat × Pr)} {tl rest : List Oper} {FS : List Nat} {Fs : List (Act → World → Prop)} {d : Nat} {ty : TypeId} {pos : String} {af : Array Edge}
/-- An append to a new empty slice, as a named new block. -/
theorem G_appNew {wr : World} {α : Type} {Ψ : Phi α} {zs : List α} {es : Option TypeId} {t e : TypeId} {x y : Operand} {hfl : Flat Ψ} (hk : Nat.blt 0 Ψ.k = true) (hB : appB P t e Ψ.k = true) (hN : Nat.blt d N = true)
    (hx : kn K x = some (.inr (uF e Ψ ([] : List α)))) (hy : kn K y = some (.inr (uS es Ψ zs))) (hb : zs.length ≤ 1073741824 ∧ 0 < zs.length)
    (h : WG P ops N (Ext wr) Q tl (d :: FS) Fs ((d, .inr (uO wr.heap.size (oF e Ψ hfl) zs)) :: K) rest) :
    WG P ops N (Ext wr) Q tl FS Fs K (⟨some d, .call { callee := .builtin .append, args := #[x, y], argTypes := #[t, t] }, ty, pos, af, none⟩ :: rest) := by
  refine wkG_step (F := fun _ _ => True) (f := true) (R := .inr (uO wr.heap.size (oF e Ψ hfl) zs)) rfl stabF_true (fun a w hC hkk _ => ?_) (wkG_true (by simpa using h))
  rw [if_pos (by rfl)]
  obtain ⟨i, z, hu, hi, hz, hzk, hik, hby⟩ := appB_spec hB
  have hk' : 0 < Ψ.k := Nat.le_of_ble_eq_true hk
  obtain ⟨p, hv, _⟩ := kn_ok (ops := ops) (op := .call { callee := .builtin .append, args := #[x, y], argTypes := #[t, t] }) (by simp [Op.operands, Call.operands]) hx hkk
  have hys : IsS es Ψ zs (a.eval y) w := kn_ok (ops := ops) (op := .call { callee := .builtin .append, args := #[x, y], argTypes := #[t, t] }) (by simp [Op.operands, Call.operands]) hy hkk
  obtain ⟨news, hsrc, hls⟩ := IsS.src (P := P) hk' hu hys
  obtain ⟨hsum, hz0⟩ := hb
  have hv : a.eval x = .slice p 0 0 := hv
  have hop : ∀ r w', (Builtin.append_ #[t, t] ty #[.slice p 0 0, a.eval y]).run P w = .ok r w' → (execOp a.eval ⟨some d, .call { callee := .builtin .append, args := #[x, y], argTypes := #[t, t] }, ty, pos, af, none⟩).run P w = .ok (.value r) w' := fun r w' hr => by
    simp [execOp, resolve, invoke, builtin, hv, hr]
  have hold : (Builtin.firstCells i.size 0 (.slice p 0 0)).run P w.drew = .ok ([] : List Value).toArray w.drew := by
    cases p with
    | none => exact run_firstCells_none w.drew i.size 0 0 0
    | some ad => exact run_firstCells_some w.drew i.size 0 ad 0 0 [] (by simp) (fun j v hj => by simp at hj)
  have hr := hop _ _ (run_append_grow_src (P := P) w t t ty e i z hu hi hz p 0 0 [] hold (a.eval y) zs.length news (by rw [hik]; exact hsrc) (by omega) (by omega) (growslice_fits (by omega) (by
    have : (0 + zs.length) * i.bytes ≤ 1073741824 * 4096 := Nat.mul_le_mul (by omega) hby
    omega)))
  unfold gives
  rw [hr]
  obtain ⟨c', hc'⟩ : ∃ c', c' = grownCap w (0 + zs.length) 0 e := ⟨_, rfl⟩
  have hge := grownCap_ge w (0 + zs.length) 0 e
  have hcm : grownCap w (0 + zs.length) 0 e ≤ maxLen := grownCap_le_maxLen w (0 + zs.length) 0 e (by simp only [maxLen]; omega)
  rw [← hc'] at hge hcm ⊢
  obtain ⟨cs', hcs'⟩ : ∃ cs' : List Value, cs' = news ++ (Builtin.zeroCells z.cells (c' - (0 + zs.length))).toList := ⟨_, rfl⟩
  have hrow : (([] ++ news).toArray ++ Builtin.zeroCells z.cells (c' - (0 + zs.length))) = cs'.toArray := by
    rw [hcs']
    apply Array.ext'
    simp
  rw [hrow]
  have hnl : news.length = zs.length * Ψ.k := hsrc.newsLen
  have hext : Ext w (w.drew.alloc (.cells cs'.toArray e)) := (Ext.refl w).drew.alloc _
  have hBn : Blk (w.drew.alloc (.cells cs'.toArray e)) w.heap.size e cs' := heap_alloc_new w.drew _
  have hz' : (Builtin.zeroCells z.cells (c' - (0 + zs.length))).toList.length = (c' - (0 + zs.length)) * Ψ.k := by rw [Array.length_toList, size_zeroCells, hzk]
  have hs0 := hC.size
  refine ⟨hext, ⟨fun b => b = w.heap.size, fun b hb => by subst hb; exact ⟨hs0, hBn.lt⟩, some w.heap.size, 0 + zs.length, c', cs', ⟨_, rfl, .inl rfl⟩, by omega, hge, hcm, ?_, hBn, fun g hg => by injection hg with hg; exact hg.symm, (fun h => by cases h), ?_⟩, trivial, fun _ => ⟨w.heap.size, rfl, Nat.le_refl _, hBn.lt⟩⟩
  · rw [hcs', List.length_append, hnl, hz', ← Nat.add_mul]
    congr 1
    omega
  · refine ls_app (xs := []) (n := 0) (cs := []) (news := news) rfl rfl (by simp) ls_nil (upC_ls _ _ hls hext) ?_
    rw [hcs', List.take_nil, List.nil_append, List.take_append_of_le_length (by rw [hnl]; simp), List.take_of_length_le (by rw [hnl]; simp)]
/-- Named new blocks, and a new slice. -/
theorem SqG_openT {l : List Oper} {q wr : World} {L : List Osl} (ns : List Nw) (t : Nat) {α : Type} {e : TypeId} {Ψ : Phi α} {hfl : Flat Ψ} {ys : List α} (hind : ∀ z c w w', Ψ.φ z c w → Ψ.φ z c w') (hS : Sep q L wr) (hok : ∀ n ∈ ns, n.Ok)
    (ht : lookK K t = some (.inr (uO wr.heap.size (oF e Ψ hfl) ys))) (htF : t ∈ FS) (hy : 0 < ys.length)
    (hk : ∀ n ∈ ns, lookK K n.slot = some (.inr (uNw wr.heap.size n)) ∧ n.slot ∈ FS) (hnd : (t :: ns.map Nw.slot).Nodup)
    (h : ∀ v gs, gs.length = ns.length → SqG P ops N (Sep q (.sl α e Ψ ys v :: (openL ns gs ++ L))) Q FS Fs ((t, .inl v) :: (openK ns gs ++ K)) l) : SqG P ops N (Ext wr) Q FS Fs K l := by
  unfold SqG
  intro a w hst hF hd
  obtain ⟨v, hv, S, hS1, A, n, c', cs, ⟨p, h1, hp⟩, h2, h3, h4, h5, h6, h7, h8, h9⟩ := hst.slots t _ ht
  subst h1
  cases A with
  | none => have := h8 rfl; subst this; simp at hy
  | some g =>
    obtain rfl := hp.some_
    have h6 : Blk w g e cs := h6
    obtain ⟨nw, hnw⟩ : ∃ nw : Nw, nw = ⟨t, e, cs, fun g => .slice (some ⟨g, 0, none⟩) n c', fun g => .sl α e Ψ ys (.slice (some ⟨g, 0, none⟩) n c')⟩ := ⟨_, rfl⟩
    have hnok : nw.Ok := by
      subst hnw
      refine ⟨fun g => rfl, fun g w' => ⟨c', rfl, ⟨some ⟨g, 0, none⟩, by rw [h2], .inl rfl⟩, by omega, h4, h5, (fun h => by cases h), fun j z hz => hind _ _ _ _ (h9 j z hz)⟩⟩
    have hst' : St N ((t, .inr (uNw wr.heap.size nw)) :: K) (Ext wr) a w := ⟨hst.size, hst.defers, fun s p' hp' => by
      by_cases e0 : t = s
      · subst e0
        rw [lookK_same] at hp'
        injection hp' with hp'
        subst hp'
        subst hnw; exact ⟨_, hv, g, rfl, (hS1 g (h7 g rfl)).1, h6⟩
      · rw [lookK_ne _ e0] at hp'
        exact hst.slots s p' hp', hst.cls⟩
    obtain ⟨hnd1, hnd2⟩ := List.nodup_cons.1 hnd
    have hgo : SqG P ops N (Ext wr) Q FS Fs ((t, .inr (uNw wr.heap.size nw)) :: K) l := by
     refine SqG_open (nw :: ns) hS (fun n hn => ?_) (fun n hn => ?_) (by rw [List.map_cons, hnw]; exact hnd) (fun gs hl => ?_)
     · rcases List.mem_cons.1 hn with rfl | hn
       · exact hnok
       · exact hok n hn
     · rcases List.mem_cons.1 hn with rfl | hn
       · rw [hnw]
         exact ⟨lookK_same _ _ _, htF⟩
       · have hne : t ≠ n.slot := fun e0 => hnd1 (e0 ▸ List.mem_map_of_mem hn)
         rw [lookK_ne _ hne]
         exact hk n hn
     · cases gs with
       | nil => simp at hl
       | cons g' gs =>
         have hx := h (.slice (some ⟨g', 0, none⟩) n c') gs (by simpa using hl)
         unfold SqG at hx ⊢
         intro a' w' hst2 hF2 hd2
         refine hx a' w' ⟨hst2.size, hst2.defers, fun s p' hp' => ?_, ?_⟩ hF2 hd2
         · refine hst2.slots s p' ?_
           rw [← hp', hnw]
           simp only [openK, List.cons_append]
           by_cases e0 : t = s
           · subst e0
             rw [lookK_same, lookK_same]
           · rw [lookK_ne _ e0, lookK_ne _ e0, lookK_append, lookK_append, lookK_ne _ e0]
         · have := hst2.cls
           rw [hnw] at this
           simpa [openL] using this
    unfold SqG at hgo
    exact hgo a w hst' hF hd
end
theorem spn_ind : ∀ (z : Spn) c (w w' : World), pSpn.φ z c w → pSpn.φ z c w' := fun z c w w' h => by
  obtain ⟨c1, r1, rfl, rfl, c2, r2, rfl, rfl, rfl⟩ := h
  exact ⟨[_], _, rfl, rfl, [_], _, rfl, rfl, rfl⟩
section
variable {r : Ros} {vS vD : Value} {vs : List Value} {L0 : List Osl}
theorem rsL_rowI {i : Int} (hl : vs.length = r.D.length) (hi : 0 ≤ i ∧ i < (r.D.length : Int)) : (rsL r vS vD vs ++ L0)[i.toNat + 2]? = some (.sl Int 3 pI (ix r.D i) (ix vs i)) := by
  have h := rsL_row (vS := vS) (vD := vD) (L0 := L0) (i := i.toNat) hl (by omega)
  rw [show ((i.toNat : Nat) : Int) = i by omega] at h
  exact h
theorem rsL_set {i d s : Int} (hl : vs.length = r.D.length) (hi : 0 ≤ i ∧ i < (r.D.length : Int)) : (rsL r vS vD vs ++ L0).set (i.toNat + 2) (.sl Int 3 pI ((ix r.D i).set d.toNat s) (ix vs i)) = rsL (setR r i d s) vS vD vs ++ L0 := by
  simp only [rsL, setR, List.cons_append, List.set_cons_succ]
  rw [List.set_append_left _ _ (by rw [rowsZ_len hl]; omega), rowsZ_set2 hl]
  have e : vs.set i.toNat (ix vs i) = vs := by
    have hil : i.toNat < vs.length := by omega
    have e1 : ix vs i = vs[i.toNat] := by
      have := ix_elem (xs := vs) (j := i.toNat) hil
      rwa [show ((i.toNat : Nat) : Int) = i by omega] at this
    rw [e1]
    exact List.set_getElem_self hil
  rw [e]
theorem setR_D {i d s : Int} : (setR r i d s).D.length = r.D.length := setR_len
theorem sw_setR {a b d : Int} (hb : 0 ≤ b) (ha : 0 ≤ a ∧ a < (r.D.length : Int)) (hab : a ≠ b) : setR (setR r a d (ix (ix r.D b) d)) b d (ix (ix r.D a) d) = swX r a b d := by
  unfold setR swX swD
  simp only
  rw [ixL_set ha hb, if_neg (fun e => hab e.symm)]
theorem sw_setR' {a b d : Int} (hb : 0 ≤ b ∧ b < (r.D.length : Int)) (ha : 0 ≤ a ∧ a < (r.D.length : Int)) (hab : a ≠ b) : setR (setR r b d (ix (ix r.D a) d)) a d (ix (ix r.D b) d) = swX r a b d := by
  rw [← sw_setR hb.1 ha hab]
  unfold setR
  simp only
  rw [ixL_set hb ha.1, if_neg hab, ixL_set ha hb.1, if_neg (fun e => hab e.symm)]
  congr 1
  exact List.set_comm _ _ (by omega)
end
theorem RosV.f {r : Ros} (h : rosB r = true) : RosF r := by
  obtain ⟨h0, h1, h2, h3⟩ := rosB_t.1 h
  refine ⟨by omega, by omega, fun z hz => ?_⟩
  obtain ⟨j, hj, e⟩ := List.mem_iff_getElem.1 hz
  have := (rwB_t.1 (h2 j hj)).1
  rw [ix_elem hj, e] at this
  omega
end Go.Proofs.Ytanlaggnhocjhaa
namespace Go.Proofs.Ytanlaggnhocjhaa
open Go.RowKit Go.ChangeShapes Go.WideShapes Go.ChangeAt Go.Deep
abbrev rsC (r : Ros) (vS vD : Value) : List Value := [vS, .int .i64 r.R.A, .int .i64 r.R.B, .int .i64 r.R.C, vD]
abbrev owR (r : Ros) (g3 : Nat) (vS vD : Value) (us : List Value) (i : Nat) : List Osl := .raw 32 g3 (rsC r vS vD) :: .sl Spn 71 pSpn r.S vS :: .sl Value 39 pV us vD :: rowsZ (r.D.take i) us
theorem rsC_one {r : Ros} {vS vD : Value} (h1 : vS.oneCell' = true) (h2 : vD.oneCell' = true) : ∀ u ∈ rsC r vS vD, u.oneCell' = true := by
  intro u hu
  simp only [rsC, List.mem_cons, List.not_mem_nil, or_false] at hu
  rcases hu with rfl | rfl | rfl | rfl | rfl
  · exact h1
  · rfl
  · rfl
  · rfl
  · exact h2
abbrev zRos : List Value := [.slice none 0 0, .int .i64 0, .int .i64 0, .int .i64 0, .slice none 0 0]
theorem cx_l14Own (r : Ros) (hf : RosF r) (h0 : 0 < r.S.length) (w : World) : CTX Try.prog 25 (fun u => u = w) [.inr (uA bRos r)]
    (fun (y : Value × Value × List Value) w' => Sep w (rsL r y.1 y.2.1 y.2.2) w' ∧ y.2.2.length = r.D.length) (fun y => .inl (.agg (rsC r y.1 y.2.1).toArray)) := by
  have hs := hf.s
  have ht := hf.d
  have hfr : ∀ i : Nat, i < r.D.length → (ix r.D i).length ≤ 1048576 := fun i hi => hf.a _ (mem_ix (by omega) (by omega))
  refine CTX_of Try.func25 rfl rfl rfl ?_
  refine H_weakenC (C' := Sep w []) (fun w1 h => by subst h; exact sep_start (Ext.refl _)) ?_
  have hC : UpC (Sep w []) := upC_sep
  try any_goals (first | (refine H_seq ?_; try refine H_reg ?_) | refine H_reg ?_)
  try any_goals (refine W_boxA (d := 1) (sq_stepper upC_sep) rfl rfl rfl ?_)
  try any_goals (refine Sq_allocS (d := 2) (n := 5) (by kernel_rfl) rfl (fun g2 cs2 hcs2 => ?_))
  try any_goals (first | (refine Sq_nil ?_; try refine G_then ?_) | refine G_then ?_)
  try any_goals (refine H_seq ?_)
  try any_goals (refine H_open 1 rfl (fun q u1 hq hr1 => ?_); have hg2 := hq.raw (m := 0) rfl; have hlo := hq.rawLo (m := 0) rfl; have hE := hq.ext; refine H_weakenC (C' := Sep q []) (fun w' h => sep_start h) ?_; refine H_pinR 1 (fun wr hS => ?_))
  try any_goals (refine H_drawG [] [0, 1, 2, 3, 4, 5, 6, 7] [8] (by kernel_rfl) (by kernel_rfl) (upC_ext _) (fun _ _ _ _ _ h => h) ?_)
  try any_goals (refine L_nil ?_)
  try any_goals (refine W_buildF (d := 5) wkG_stepper [] pSpn [] (e := 71) (by kernel_rfl) (by kernel_rfl) rfl rfl (by kernel_rfl) rfl rfl rfl trivial ?_)
  try any_goals (refine W_fieldUP (d := 6) wkG_stepper (fun w' h => UR.lift (hS.ext.trans h) hr1) (Proj.head _ _ _) (by kernel_rfl) rfl rfl rfl ?_)
  try any_goals (refine W_loadS (d := 7) wkG_stepper (by kernel_rfl) rfl rfl rfl ?_)
  try any_goals (refine G_appNew (Ψ := pSpn) (hfl := flSpn) (by kernel_rfl) (by kernel_rfl) rfl rfl rfl ⟨by omega, h0⟩ ?_)
  try any_goals (refine W_fieldUP (d := 9) wkG_stepper (fun w' h => UR.lift (hS.ext.trans h) hr1) (Proj.tail _ _ (Proj.head _ _ _)) (by kernel_rfl) rfl rfl rfl ?_)
  try any_goals (refine W_loadA (d := 10) wkG_stepper (by kernel_rfl) rfl rfl rfl ?_)
  try any_goals (refine G_bagg rfl (by intro x hx; simp at hx; rcases hx with rfl | rfl <;> simp) (fun a w' _ hk => by obtain ⟨_, _, _, n1, c1, _, ⟨p1, e1, _⟩, _⟩ := hk (0, .tmp 8) (by simp) _ rfl; obtain ⟨c2, e2, hc2⟩ := hk (1, .tmp 10) (by simp) _ rfl; rw [pRul_c hc2] at e2; refine ⟨(rsC r (.slice p1 n1 c1) (.slice none 0 0)).toArray, ?_⟩; simp only [List.map_cons, List.map_nil]; rw [e1, e2]; kernel_rfl) ?_)
  try any_goals (refine G_alloc (n := 5) (nwB 3 32 zRos) (by kernel_rfl) rfl ⟨rfl, by kernel_rfl, rfl⟩ ?_)
  try any_goals (refine WkG_nil ?_)
  try any_goals (refine SqG_openT [nwB 3 32 zRos] 8 (Ψ := pSpn) (hfl := flSpn) spn_ind hS (by intro n hn; simp only [List.mem_singleton] at hn; subst hn; exact nwB_ok) rfl (by simp) h0 (by intro n hn; simp only [List.mem_singleton] at hn; subst hn; exact ⟨rfl, by simp [nwB]⟩) (by show ([8, 3] : List Nat).Nodup; decide) (fun v8 gs hl => ?_); obtain ⟨g3, rfl⟩ := len_one hl; refine SqG_know 11 (.agg (rsC r v8 (.slice none 0 0)).toArray) (fun a w' hst hF => by obtain ⟨cs, h1, h2⟩ := hF _ (List.Mem.head _); have e8 : a.eval (.tmp 8) = v8 := kn_val (s := .tmp 8) hst rfl; obtain ⟨c2, e10, hc2⟩ := kn_val (s := .tmp 10) hst rfl; rw [pRul_c hc2] at e10; have h1 : (Try.prog).built 32 [(0, a.eval (.tmp 8)), (1, a.eval (.tmp 10))] = some cs := h1; obtain ⟨_, c8, _, ⟨p8, e9, _⟩, _⟩ := hst.cls.get (m := 0) (Ψ := pSpn) (xs := r.S) (v := v8) (e := 71) rfl; subst e9; rw [e8, e10] at h1; have h3 : (Try.prog).built 32 [(0, .slice p8 r.S.length c8), (1, .agg ([Value.int .i64 r.R.A, .int .i64 r.R.B, .int .i64 r.R.C]).toArray)] = some (rsC r (.slice p8 r.S.length c8) (.slice none 0 0)).toArray := (by kernel_rfl); rw [h3] at h1; rw [Option.some.inj h1]; exact h2) ?_; refine SqG_done ?_)
  try any_goals (refine Sq_slV 0 (xs := r.S) (e := 71) (Ψ := pSpn) (v := v8) rfl (fun hv8 => ?_); refine Sq_storeRaw 1 (k := 5) (vs := rsC r v8 (.slice none 0 0)) (cs := zRos) (b := g3) (e := 32) rfl ⟨⟨trivial, trivial, trivial⟩, trivial, trivial⟩ (by kernel_rfl) rfl rfl rfl (raw_ag (rsC_one hv8 rfl)) (Nat.le_refl _) ?_)
  try any_goals (first | (refine Sq_nil ?_; try refine G_then ?_) | refine G_then ?_)
  try any_goals (refine H_seq ?_)
  try any_goals (first | (refine H_seq ?_; try refine H_reg ?_) | refine H_reg ?_)
  try any_goals (refine W_assign (d := 4) (sq_stepper upC_sep) rfl rfl rfl ?_)
  try any_goals (first | (refine Sq_nil ?_; try refine G_then ?_) | refine G_then ?_)
  try any_goals (refine H_block ?_)
  try any_goals ((refine H_loop (σ := Nat × Value × List Value) (fun x => x.1 ≤ r.D.length ∧ x.2.2.length = x.1) (fun x => [(1, .inl u1), (2, .inl (.pointer (some ⟨g2, 0, none⟩))), (3, .inl (.pointer (some ⟨g3, 0, none⟩))), (4, .inl (.int .i64 x.1))]) (fun x => Sep q (owR r g3 v8 x.2.1 x.2.2 x.1)) (fun x => r.D.length - x.1) (0, .slice none 0 0, []) ⟨Nat.zero_le _, rfl⟩ (fun a w' h => h.sub (by repeat (first | exact trivial | refine ⟨⟨_, rfl, fun _ _ _ h => h⟩, ?_⟩ | refine ⟨⟨_, rfl, fun v w _ h => (show v = _ from h).trans (congrArg (Value.int .i64) (by first | omega | (dsimp only; omega)))⟩, ?_⟩)) (fun w' h => by have h2 := (Sep.emp Value 39 pV (p := none) h).perm (L' := owR r g3 v8 (.slice none 0 0) [] 0) (by simp only [owR, List.take_zero, rowsZ, List.set_cons_zero, List.set_cons_succ, List.cons_append, List.nil_append]; exact ((List.Perm.swap _ _ _).trans ((List.Perm.swap _ _ _).cons _)).trans (((List.Perm.swap _ _ _)).trans ((List.Perm.refl _)))); exact h2)) (fun x hx => ?_); obtain ⟨i, vD, us⟩ := x; obtain ⟨hi, hul⟩ := hx; simp only at hi hul))
  try any_goals (refine H_seq ?_)
  try any_goals (first | (refine H_seq ?_; try refine H_reg ?_) | refine H_reg ?_)
  try any_goals (refine W_move (d := 12) (sq_stepper upC_sep) rfl rfl rfl ?_)
  try any_goals (refine W_fieldUP (d := 13) (sq_stepper upC_sep) (fun w' h => UR.lift (Sep.ext h) hr1) (Proj.tail _ _ (Proj.tail _ _ (Proj.head _ _ _))) (by kernel_rfl) rfl rfl rfl ?_)
  try any_goals (refine W_loadS (d := 14) (sq_stepper upC_sep) (by kernel_rfl) rfl rfl rfl ?_)
  try any_goals (first | refine W_len (d := 15) (sq_stepper upC_sep) (by kernel_rfl) rfl rfl rfl ?_ | refine W_lenStr (d := 15) (sq_stepper upC_sep) (by kernel_rfl) rfl rfl rfl ?_)
  try any_goals (first | refine W_cmp (d := 16) (sq_stepper upC_sep) rfl rfl rfl rfl rfl ?_ | refine W_strcmp (d := 16) (sq_stepper upC_sep) rfl rfl rfl rfl rfl ?_)
  try any_goals (first | (refine Sq_nil ?_; try refine G_then ?_) | refine G_then ?_)
  try any_goals (first | refine H_condT rfl ?_ | refine H_condF rfl (Wt.un 0 ?_) | (refine H_cond _ rfl (fun hq => ?_) (fun hq => Wt.un 0 ?_) <;> (try simp only [hqs, reduceCtorEq] at hq)))
  try any_goals (refine H_skip ?_)
  try any_goals (refine G_hold 1 ?_)
  try any_goals (refine Wt.out 0 ?_)
  try any_goals (refine H_exit ?_)
  repeat (any_goals (first | refine G_exit_then ?_ | refine G_exit_here ?_ | refine G_exit_far rfl ?_))
  try any_goals (refine G_hold 2 ?_)
  try any_goals (refine Wt.out 1 ?_)
  try any_goals (refine G_then ?_)
  try any_goals (refine H_seq ?_)
  try any_goals (refine H_block ?_)
  try any_goals (refine H_pinR 5 (fun wr hS => ?_))
  try any_goals (refine H_drawR [0, 1, 2, 3, 4, 5, 6, 7, 8] [9, 10, 11] (by kernel_rfl) (by kernel_rfl) (upC_ext _) ?_)
  try any_goals (first | refine W_fieldG (d := 19) (wkR_stepper (upC_ext _)) (Proj.tail _ _ (Proj.tail _ _ (Proj.head _ _ _))) (by kernel_rfl) rfl rfl rfl ?_ | refine W_fieldC (d := 19) (wkR_stepper (upC_ext _)) (off := 4) (by kernel_rfl) rfl rfl rfl ?_)
  try any_goals (refine W_loadO (d := 20) (wkR_stepper (upC_ext _)) (by kernel_rfl) rfl rfl rfl (fun w' h => (Blk.ext (hS.raw (m := 0) rfl) h).cell rfl) ?_)
  try any_goals (refine W_fieldUP (d := 21) (wkR_stepper (upC_ext _)) (fun w' h => UR.lift (hS.ext.trans h) hr1) (Proj.tail _ _ (Proj.tail _ _ (Proj.head _ _ _))) (by kernel_rfl) rfl rfl rfl ?_)
  try any_goals (refine W_loadS (d := 22) (wkR_stepper (upC_ext _)) (by kernel_rfl) rfl rfl rfl ?_)
  try any_goals (refine W_move (d := 23) (wkR_stepper (upC_ext _)) rfl rfl rfl ?_)
  try any_goals (refine W_index (d := 24) (wkR_stepper (upC_ext _)) (by kernel_rfl) rfl rfl rfl rfl (by first | omega | (dsimp only; omega)) ?_)
  try any_goals (refine W_loadS (d := 25) (wkR_stepper (upC_ext _)) (by kernel_rfl) rfl rfl rfl ?_)
  try any_goals (refine WR_ctx0 (cx_own (ix r.D i) (hfr i (by omega))) rfl rfl (by kernel_rfl) ?_)
  try any_goals (refine WR_one (e := 39) (by kernel_rfl) rfl rfl 26 (List.Mem.head _) (List.Mem.head _) (fun y w h => sl_one h) (by kernel_rfl) ?_)
  try any_goals (refine WR_nil ?_)
  try any_goals (refine SqR_openI 26 hS (List.Mem.tail _ (List.Mem.head _)) 27 (List.Mem.head _) (List.Mem.head _) (fun y w h => sl_one h) (fun v26 _ => ?_))
  try any_goals (refine Sq_appS (d := 28) 3 (Ψ := pV) rfl ⟨trivial, trivial, ⟨trivial, trivial, trivial⟩, trivial, avAll_rows⟩ (by kernel_rfl) (by kernel_rfl) rfl rfl rfl ⟨by simp only [List.length_cons, List.length_nil]; omega, by simp⟩ (fun vb => ?_))
  try any_goals (first | refine W_fieldG (d := 29) (sq_stepper upC_sep) (Proj.tail _ _ (Proj.tail _ _ (Proj.head _ _ _))) (by kernel_rfl) rfl rfl rfl ?_ | refine W_fieldC (d := 29) (sq_stepper upC_sep) (off := 4) (by kernel_rfl) rfl rfl rfl ?_)
  try any_goals (refine Sq_slV 3 (xs := us ++ [v26]) (e := 39) (Ψ := pV) (v := vb) rfl (fun hvb => ?_); refine Sq_storeRaw 1 (k := 1) (vs := [vb]) (cs := rsC r v8 vD) (b := g3) (e := 32) rfl ⟨trivial, trivial, ⟨trivial, trivial, trivial⟩, trivial, avAll_rows⟩ (by kernel_rfl) rfl rfl rfl (raw_v hvb) (by simp) ?_)
  try any_goals (refine Sq_nil ?_)
  repeat (any_goals (first | refine G_exit_then ?_ | refine G_exit_here ?_ | refine G_exit_far rfl ?_ | refine G_normal_block ?_))
  try any_goals (refine G_then ?_)
  try any_goals (refine H_reg ?_)
  try any_goals (refine W_move (d := 17) (sq_stepper upC_sep) rfl rfl rfl ?_)
  try any_goals (refine W_ar (d := 18) (sq_stepper upC_sep) rfl rfl rfl rfl rfl (by first | omega | (dsimp only; omega)) ?_)
  try any_goals (refine W_assign (d := 4) (sq_stepper upC_sep) rfl rfl rfl ?_)
  try any_goals (refine Sq_nil ?_)
  try any_goals (refine G_again (i + 1, vb, us ++ [v26]) ⟨by simp only; omega, by simp only [List.length_append, List.length_cons, List.length_nil]; omega⟩ (by simp only; omega) (by repeat (first | exact trivial | refine ⟨⟨_, rfl, fun _ _ _ h => h⟩, ?_⟩ | refine ⟨⟨_, rfl, fun v w _ h => (show v = _ from h).trans (congrArg (Value.int .i64) (by first | omega | (dsimp only; omega)))⟩, ?_⟩)) (fun w' h => ?_))
  try any_goals (refine Wt.out 2 ?_)
  repeat (any_goals (first | refine G_exit_then ?_ | refine G_exit_here ?_ | refine G_exit_far rfl ?_ | refine G_normal_block ?_))
  try any_goals (refine G_then ?_)
  try any_goals (refine H_seq ?_)
  try any_goals (refine H_weakenC (C' := Sep w (.raw 32 g2 cs2 :: owR r g3 v8 vD us i)) (fun w' h => Sep.base hE hg2 hlo h) ?_)
  try any_goals (refine H_reg ?_)
  try any_goals (refine W_loadRawA (d := 30) 1 (sq_stepper upC_sep) rfl (by kernel_rfl) rfl rfl rfl rfl ?_)
  try any_goals (refine Sq_slV 3 (xs := us) (e := 39) (Ψ := pV) (v := vD) rfl (fun hvD => ?_); refine Sq_storeRaw 0 (k := 5) (vs := rsC r v8 vD) (cs := cs2) (b := g2) (e := 32) rfl ⟨trivial, trivial, ⟨trivial, trivial, trivial⟩, trivial, avAll_rows⟩ (by kernel_rfl) rfl rfl rfl (raw_ag (rsC_one hv8 hvD)) (by rw [hcs2]; exact Nat.le_refl _) ?_; rw [putL_all (by rw [hcs2]; rfl)])
  try any_goals (first | (refine Sq_nil ?_; try refine G_then ?_) | refine G_then ?_)
  try any_goals (refine H_ret ?_)
  repeat (any_goals (first | refine G_ret_then ?_ | refine G_ret_block ?_))
  all_goals (try dsimp only)
  all_goals first
    | (simp only [owR, List.map_cons, List.map_nil, List.cons_append, List.nil_append, List.set_cons_succ, List.set_cons_zero] at h ⊢
       have e1 : putL (rsC r v8 vD) 4 [vb] = rsC r v8 vb := rfl
       simp only [Nat.zero_add] at h
       rw [e1] at h
       have h2 := h.perm (L' := (.raw _ g3 (rsC r v8 vb) :: .sl Spn _ pSpn r.S v8 :: .sl Value _ pV (us ++ [v26]) vb :: (rowsZ (r.D.take i) us ++ [.sl Int _ pI (ix r.D i) v26]))) (by
         exact (List.perm_append_singleton (.sl Int _ pI (ix r.D i) v26) (.raw _ g3 (rsC r v8 vb) :: .sl Spn _ pSpn r.S v8 :: .sl Value _ pV (us ++ [v26]) vb :: rowsZ (r.D.take i) us)).symm)
       rw [← rowsZ_snoc (by rw [List.length_take]; omega), show r.D.take i ++ [ix r.D i] = r.D.take (i + 1) by rw [List.take_add_one, List.getElem?_eq_getElem (by omega), ix_elem (by omega)]; rfl] at h2
       exact h2)
    | (obtain rfl : i = r.D.length := (by omega)
       refine RcellX 0 (b := g2) (cs := rsC r v8 vD) (k := 5) rfl (by kernel_rfl) rfl rfl rfl (fun w' hc => ⟨(_, vD, us), ⟨?_, hul⟩, rfl⟩)
       have h2 := Sep.drop (Sep.drop hc)
       rw [List.take_of_length_le (Nat.le_refl _)] at h2
       exact h2)
    | trace_state
end Go.Proofs.Ytanlaggnhocjhaa

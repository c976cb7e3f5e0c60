/- The cheapest minutes: plain law. -/
import Derived.Test.YtanlaggnhocjhaaPut
import Derived.Test.YtanlaggnhocjhaaStb
import Derived.Test.YtanlaggnhocjhaaSoI
namespace Go.Proofs.Ytanlaggnhocjhaa
set_option linter.unusedSimpArgs false
set_option linter.unusedVariables false
open Go.RowKit
theorem ix_of {xs : List Int} {x : Int} (h : x ∈ xs) : ∃ j : Int, (0 ≤ j ∧ j < xs.length) ∧ ix xs j = x := by
  obtain ⟨i, hi⟩ := List.mem_iff_getElem?.1 h
  have hlt := (List.getElem?_eq_some_iff.1 hi).1
  refine ⟨i, by omega, ?_⟩
  have := ix_get (xs := xs) (i := (i : Int)) (by omega) (by omega)
  rw [Int.toNat_natCast, hi] at this
  injection this with this
  exact this.symm
def rngL (f : Int) (n : Nat) : List Int := (List.range n).map fun i : Nat => f + (i : Int)
theorem rngL_len {f : Int} {n : Nat} : (rngL f n).length = n := by simp [rngL]
theorem rngL_succ {f : Int} {n : Nat} : rngL f (n + 1) = rngL f n ++ [f + (n : Int)] := by simp [rngL, List.range_succ]
theorem rngL_mem {f x : Int} {n : Nat} : x ∈ rngL f n ↔ f ≤ x ∧ x < f + n := by
  simp only [rngL, List.mem_map, List.mem_range]
  constructor
  · rintro ⟨i, h, rfl⟩
    omega
  · exact fun h => ⟨(x - f).toNat, by omega, by omega⟩
theorem rngL_ix {f i : Int} {n : Nat} (h0 : 0 ≤ i) (h1 : i < n) : ix (rngL f n) i = f + i := by
  have h2 := ix_get (xs := rngL f n) h0 (by rw [rngL_len]; exact h1)
  simp only [rngL, List.getElem?_map, List.getElem?_range (show i.toNat < n by omega), Option.map_some] at h2
  injection h2 with h2
  rw [rngL, ← h2]
  omega
theorem rngL_asc {f : Int} {n : Nat} (i j : Int) (h0 : 0 ≤ i) (h1 : i < j) (h2 : j < (rngL f n).length) : ix (rngL f n) i < ix (rngL f n) j := by
  rw [rngL_len] at h2
  rw [rngL_ix h0 (by omega), rngL_ix (by omega) h2]
  omega
theorem rngL_nodup {f : Int} {n : Nat} : (rngL f n).Nodup := by
  unfold rngL List.Nodup
  rw [List.pairwise_map]
  exact (List.pairwise_lt_range (n := n)).imp fun h => by omega
def pxt (P : List Int) (x : Int) : Int := ix P (x / 60)
def lpB (p : Int → Int) (x y : Int) : Bool := decide (p x < p y ∨ (p x = p y ∧ x ≤ y))
def chp (P : List Int) (f : Int) (n : Nat) : List Int := (rngL f n).mergeSort (lpB (pxt P))
theorem srt_pw {p : Int → Int} {E : List Int} {n : Int} (hn : n = E.length) (h : Srt p E 0 n) : E.Pairwise fun x y => lpB p x y = true := by
  subst hn
  rw [List.pairwise_iff_getElem]
  intro i j hi hj hij
  have h1 := h i j (by omega) (by omega) (by omega)
  have e1 : ix E (i : Int) = E[i] := by
    have := ix_get (xs := E) (i := (i : Int)) (by omega) (by omega)
    rw [Int.toNat_natCast, List.getElem?_eq_getElem hi] at this
    injection this with this
    exact this.symm
  have e2 : ix E (j : Int) = E[j] := by
    have := ix_get (xs := E) (i := (j : Int)) (by omega) (by omega)
    rw [Int.toNat_natCast, List.getElem?_eq_getElem hj] at this
    injection this with this
    exact this.symm
  rw [e1, e2] at h1
  unfold Lt2 at h1
  unfold lpB
  rw [decide_eq_true_eq]
  omega
theorem chp_pw {P : List Int} {f : Int} {n : Nat} : (chp P f n).Pairwise fun x y => lpB (pxt P) x y = true :=
  List.pairwise_mergeSort (fun a b c h1 h2 => by simp only [lpB, decide_eq_true_eq] at *; omega) (fun a b => by simp only [lpB, Bool.or_eq_true, decide_eq_true_eq]; omega) _
theorem chp_perm {P : List Int} {f : Int} {n : Nat} : (chp P f n).Perm (rngL f n) := List.mergeSort_perm _ _
theorem chp_len {P : List Int} {f : Int} {n : Nat} : (chp P f n).length = n := chp_perm.length_eq.trans rngL_len
theorem chp_uniq {P : List Int} {f : Int} {n : Nat} {E : List Int} (h : E.Perm (rngL f n)) (hs : Srt (pxt P) E 0 (rngL f n).length) : E = chp P f n :=
  List.Perm.eq_of_pairwise (le := fun x y => lpB (pxt P) x y = true) (fun a b _ _ h1 h2 => by simp only [lpB, decide_eq_true_eq] at *; omega) (srt_pw (by rw [h.length_eq]) hs) chp_pw (h.trans chp_perm.symm)
theorem chp_srt {P : List Int} {f : Int} {n : Nat} : Srt (pxt P) (chp P f n) 0 n := fun i j h0 h1 h2 => by
  have hl : (chp P f n).length = n := chp_len
  have g1 := ix_get (xs := chp P f n) (i := i) h0 (by omega)
  have g2 := ix_get (xs := chp P f n) (i := j) (by omega) (by omega)
  obtain ⟨hi, e1⟩ := List.getElem?_eq_some_iff.1 g1
  obtain ⟨hj, e2⟩ := List.getElem?_eq_some_iff.1 g2
  have h3 := List.pairwise_iff_getElem.1 (chp_pw (P := P) (f := f) (n := n)) i.toNat j.toNat hi hj (by omega)
  have h4 := List.pairwise_iff_getElem.1 ((chp_perm (P := P) (f := f) (n := n)).nodup_iff.2 rngL_nodup) i.toNat j.toNat hi hj (by omega)
  rw [e1, e2] at h3 h4
  simp only [lpB, decide_eq_true_eq] at h3
  unfold Lt2
  omega
theorem chp_mem {P : List Int} {f x : Int} {n : Nat} : x ∈ chp P f n ↔ f ≤ x ∧ x < f + n := chp_perm.mem_iff.trans rngL_mem
/-! Sums. -/
def sumP (p : Int → Int) : List Int → Int
  | [] => 0
  | x :: xs => p x + sumP p xs
theorem sumP_app {p : Int → Int} {ys : List Int} : ∀ {xs : List Int}, sumP p (xs ++ ys) = sumP p xs + sumP p ys
  | [] => by simp [sumP]
  | x :: xs => by
    have := sumP_app (p := p) (ys := ys) (xs := xs)
    simp only [List.cons_append, sumP]
    omega
theorem sumP_perm {p : Int → Int} {xs ys : List Int} (h : xs.Perm ys) : sumP p xs = sumP p ys := by
  induction h with
  | nil => rfl
  | cons x _ ih => simp only [sumP, ih]
  | swap x y l => simp only [sumP]; omega
  | trans _ _ h1 h2 => exact h1.trans h2
theorem sumP_bd {p : Int → Int} : ∀ {xs : List Int}, (∀ x ∈ xs, 0 ≤ p x ∧ p x ≤ 1000) → 0 ≤ sumP p xs ∧ sumP p xs ≤ 1000 * xs.length
  | [], _ => by simp [sumP]
  | x :: xs, h => by
    have h1 := h x List.mem_cons_self
    have h2 := sumP_bd (p := p) (xs := xs) fun y hy => h y (List.mem_cons_of_mem _ hy)
    simp only [sumP, List.length_cons]
    omega
theorem take_s {xs : List Int} {k : Nat} (h : k < xs.length) : xs.take (k + 1) = xs.take k ++ [ix xs k] := by
  rw [List.take_add_one, ← Int.toNat_natCast k, ix_get (by omega) (by omega)]
  rfl
theorem sumP_take {p : Int → Int} {xs : List Int} {k : Nat} (h : k < xs.length) : sumP p (xs.take (k + 1)) = sumP p (xs.take k) + p (ix xs k) := by
  rw [take_s h, sumP_app]
  simp [sumP]
/-! The judgement. -/
def chOk (P : List Int) (f t n : Int) : Bool := decide (P.length = 30) && inB f 0 1799 && inB t 0 1799 && inB n 0 (min (t - f) 200) && P.all fun x => inB x 0 1000
def chR (P : List Int) (f t n : Int) : List Int := if chOk P f t n then srtI ((chp P f (t - f).toNat).take n.toNat) else []
def chS (P : List Int) (f t n : Int) : Int := if chOk P f t n then sumP (pxt P) ((chp P f (t - f).toNat).take n.toNat) else 0
structure ChF (P : List Int) (f t n : Int) : Prop where
  l : P.length = 30
  f0 : 0 ≤ f
  t1 : t ≤ 1799
  n0 : 0 ≤ n
  nt : n ≤ t - f
  n2 : n ≤ 200
  v : ∀ x ∈ P, 0 ≤ x ∧ x ≤ 1000
theorem chOk_y {P : List Int} {f t n : Int} (h1 : P.length = 30) (h2 : 0 ≤ f ∧ f ≤ 1799) (h3 : 0 ≤ t ∧ t ≤ 1799) (h4 : 0 ≤ n ∧ n ≤ min (t - f) 200) (h5 : ∀ x ∈ P, 0 ≤ x ∧ x ≤ 1000) : chOk P f t n = true := by
  rw [← inB_t] at h2 h3 h4
  unfold chOk
  rw [h2, h3, h4]
  simp only [h1, decide_true, Bool.and_true, List.all_eq_true, Bool.true_and]
  exact fun x hx => by rw [inB_t]; exact h5 x hx
theorem chOk_f {P : List Int} {f t n : Int} (h : chOk P f t n = true) : P.length = 30 ∧ inB f 0 1799 = true ∧ inB t 0 1799 = true ∧ inB n 0 (min (t - f) 200) = true ∧ ∀ x ∈ P, inB x 0 1000 = true := by
  simp only [chOk, Bool.and_eq_true, decide_eq_true_eq, List.all_eq_true] at h
  obtain ⟨⟨⟨⟨h1, h2⟩, h3⟩, h4⟩, h5⟩ := h
  exact ⟨h1, h2, h3, h4, h5⟩
theorem ChF.of {P : List Int} {f t n : Int} (h : chOk P f t n = true) : ChF P f t n := by
  obtain ⟨h1, h2, h3, h4, h5⟩ := chOk_f h
  rw [inB_t] at h2 h3 h4
  exact ⟨h1, by omega, by omega, by omega, by omega, by omega, fun x hx => by have := h5 x hx; rwa [inB_t] at this⟩
theorem chOk_n1 {P : List Int} {f t n : Int} (h : ¬ ((P.length : Int) = 30 ∧ (0 ≤ f ∧ f ≤ 1799) ∧ (0 ≤ t ∧ t ≤ 1799) ∧ (0 ≤ n ∧ n ≤ min (t - f) 200))) : chOk P f t n = false := by
  cases hv : chOk P f t n
  · rfl
  · have := chOk_f hv
    rw [inB_t, inB_t, inB_t] at this
    exact absurd ⟨by omega, this.2.1, this.2.2.1, this.2.2.2.1⟩ h
theorem chOk_n2 {P : List Int} {f t n j : Int} (h0 : 0 ≤ j) (h1 : j < P.length) (h : ¬ (0 ≤ ix P j ∧ ix P j ≤ 1000)) : chOk P f t n = false := by
  cases hv : chOk P f t n
  · rfl
  · exact absurd ((ChF.of hv).v _ (mem_ix h0 h1)) h
theorem chR_n {P : List Int} {f t n : Int} (h : chOk P f t n = false) : chR P f t n = [] := by rw [chR, h]; rfl
theorem chS_n {P : List Int} {f t n : Int} (h : chOk P f t n = false) : chS P f t n = 0 := by rw [chS, h]; rfl
theorem chR_y {P : List Int} {f t n : Int} (h : chOk P f t n = true) : chR P f t n = srtI ((chp P f (t - f).toNat).take n.toNat) := by rw [chR, h]; rfl
theorem chS_y {P : List Int} {f t n : Int} (h : chOk P f t n = true) : chS P f t n = sumP (pxt P) ((chp P f (t - f).toNat).take n.toNat) := by rw [chS, h]; rfl
theorem ChF.px {P : List Int} {f t n x : Int} (h : ChF P f t n) (h0 : f ≤ x) (h1 : x < t) : (0 ≤ x / 60 ∧ x / 60 < P.length) ∧ 0 ≤ pxt P x ∧ pxt P x ≤ 1000 := by
  have hl := h.l
  have hf := h.f0
  have ht := h.t1
  have hb : 0 ≤ x / 60 ∧ x / 60 < P.length := by omega
  exact ⟨hb, h.v _ (mem_ix hb.1 hb.2)⟩
theorem chR_len {P : List Int} {f t n : Int} : (chR P f t n).length ≤ 200 := by
  unfold chR
  split
  · rename_i h
    have := (ChF.of h).n2
    rw [srtI_len, List.length_take]
    omega
  · simp
/-! What the reference's two loops keep. -/
structure ChI (P : List Int) (f t n c j : Int) (ls : List Int) (s : Int) : Prop where
  k : (ls.length : Int) ≤ n
  pm : ls.Perm ((chp P f (t - f).toNat).take ls.length)
  asc : ls.Pairwise (· < ·)
  sm : s = sumP (pxt P) ((chp P f (t - f).toNat).take ls.length)
  lo : ∀ i : Int, 0 ≤ i → i < ls.length → pxt P (ix (chp P f (t - f).toNat) i) < c ∨ (pxt P (ix (chp P f (t - f).toNat) i) = c ∧ ix (chp P f (t - f).toNat) i < j)
  hi : (ls.length : Int) = n ∨ ∀ i : Int, ls.length ≤ i → i < t - f → c < pxt P (ix (chp P f (t - f).toNat) i) ∨ (pxt P (ix (chp P f (t - f).toNat) i) = c ∧ j ≤ ix (chp P f (t - f).toNat) i)
theorem ChF.at {P : List Int} {f t n i : Int} (h : ChF P f t n) (h0 : 0 ≤ i) (h1 : i < t - f) : f ≤ ix (chp P f (t - f).toNat) i ∧ ix (chp P f (t - f).toNat) i < t := by
  have := chp_mem.1 (mem_ix (xs := chp P f (t - f).toNat) h0 (by rw [chp_len]; omega))
  omega
theorem ChI.z {P : List Int} {f t n : Int} (h : ChF P f t n) : ChI P f t n 0 f [] 0 := ⟨h.n0, by simp, .nil, by simp [sumP], fun i h0 h1 => by simp at h1; omega, .inr fun i h0 h1 => by
  have h0 : 0 ≤ i := by simpa using h0
  have h2 := h.at h0 h1
  have h3 := (h.px h2.1 h2.2).2
  omega⟩
theorem ChI.skip {P : List Int} {f t n c j s : Int} {ls : List Int} (h : ChF P f t n) (hI : ChI P f t n c j ls s) (hk : (ls.length : Int) < n) (hp : pxt P j ≠ c) : ChI P f t n c (j + 1) ls s := by
  refine ⟨hI.k, hI.pm, hI.asc, hI.sm, fun i h0 h1 => ?_, .inr fun i h0 h1 => ?_⟩
  · have := hI.lo i h0 h1
    omega
  · rcases hI.hi with h2 | h2
    · omega
    · rcases h2 i h0 h1 with h3 | ⟨h3, h4⟩
      · exact .inl h3
      · refine .inr ⟨h3, ?_⟩
        by_cases e : ix (chp P f (t - f).toNat) i = j
        · rw [e] at h3
          exact absurd h3 hp
        · omega
theorem ChI.new {P : List Int} {f t n c j s : Int} {ls : List Int} (h : ChF P f t n) (hI : ChI P f t n c j ls s) (hk : (ls.length : Int) < n) (hj : f ≤ j ∧ j < t) (hp : pxt P j = c) : ix (chp P f (t - f).toNat) ls.length = j ∧ j ∉ ls := by
  have hn := h.nt
  have hmem : j ∈ chp P f (t - f).toNat := chp_mem.2 (by omega)
  obtain ⟨i, hi⟩ := List.mem_iff_getElem?.1 hmem
  have hlt := (List.getElem?_eq_some_iff.1 hi).1
  rw [chp_len] at hlt
  have hix : ix (chp P f (t - f).toNat) (i : Int) = j := by
    have := ix_get (xs := chp P f (t - f).toNat) (i := (i : Int)) (by omega) (by rw [chp_len]; omega)
    rw [Int.toNat_natCast, hi] at this
    injection this with this
    exact this.symm
  have hki : (ls.length : Int) ≤ i := by
    by_cases h1 : (i : Int) < ls.length
    · have := hI.lo i (by omega) h1
      rw [hix] at this
      omega
    · omega
  have hE : ix (chp P f (t - f).toNat) ls.length = j := by
    by_cases e : (ls.length : Int) = i
    · rw [e]
      exact hix
    · rcases hI.hi with h2 | h2
      · omega
      · have h3 := h2 ls.length (Int.le_refl _) (by omega)
        have h4 := chp_srt (P := P) (f := f) (n := (t - f).toNat) ls.length i (by omega) (by omega) (by omega)
        unfold Lt2 at h4
        rw [hix] at h4
        omega
  refine ⟨hE, fun h9 => ?_⟩
  obtain ⟨q, hq⟩ := List.mem_iff_getElem?.1 (hI.pm.mem_iff.1 h9)
  have hql := (List.getElem?_eq_some_iff.1 hq).1
  rw [List.length_take] at hql
  rw [List.getElem?_take_of_lt (by omega)] at hq
  have hqx : ix (chp P f (t - f).toNat) (q : Int) = j := by
    have := ix_get (xs := chp P f (t - f).toNat) (i := (q : Int)) (by omega) (by omega)
    rw [Int.toNat_natCast, hq] at this
    injection this with this
    exact this.symm
  have := hI.lo q (by omega) (by omega)
  rw [hqx] at this
  omega
theorem ChI.put {P : List Int} {f t n c j s : Int} {ls : List Int} (h : ChF P f t n) (hI : ChI P f t n c j ls s) (hk : (ls.length : Int) < n) (hj : f ≤ j ∧ j < t) (hp : pxt P j = c) : ChI P f t n c (j + 1) (putI ls j) (s + c) := by
  have hn := h.nt
  obtain ⟨hE, hnm⟩ := hI.new h hk hj hp
  rw [putI_new hnm]
  have hl : (insAt ls (lsN ls j) j).length = ls.length + 1 := insAt_ln
  have hcl : ls.length < (chp P f (t - f).toNat).length := by rw [chp_len]; omega
  refine ⟨by omega, ?_, insAt_asc hI.asc hnm, ?_, fun i h0 h1 => ?_, ?_⟩
  · rw [hl, take_s hcl, hE]
    refine insAt_perm.trans ?_
    exact (List.Perm.cons j hI.pm).trans (List.perm_append_comm (l₁ := [j]))
  · rw [hl, sumP_take hcl, ← hI.sm, hE, hp]
  · by_cases e : i = ls.length
    · rw [e, hE]
      omega
    · have := hI.lo i h0 (by omega)
      omega
  · by_cases hf : (ls.length : Int) + 1 = n
    · exact .inl (by omega)
    · refine .inr fun i h0 h1 => ?_
      have h4 := chp_srt (P := P) (f := f) (n := (t - f).toNat) ls.length i (by omega) (by omega) (by omega)
      unfold Lt2 at h4
      rw [hE] at h4
      omega
theorem ChI.row {P : List Int} {f t n c j s : Int} {ls : List Int} (h : ChF P f t n) (hI : ChI P f t n c j ls s) (hj : t ≤ j ∨ n ≤ ls.length) : ChI P f t n (c + 1) f ls s := by
  have hk := hI.k
  refine ⟨hI.k, hI.pm, hI.asc, hI.sm, fun i h0 h1 => ?_, ?_⟩
  · have := hI.lo i h0 h1
    omega
  · rcases hI.hi with h2 | h2
    · exact .inl h2
    · by_cases e : (ls.length : Int) = n
      · exact .inl e
      · refine .inr fun i h0 h1 => ?_
        have h3 := h2 i h0 h1
        have h4 := h.at (i := i) (by omega) h1
        omega
theorem ChI.sb {P : List Int} {f t n c j s : Int} {ls : List Int} (hI : ChI P f t n c j ls s) (h : ChF P f t n) : 0 ≤ s ∧ s ≤ 200000 := by
  have hk := hI.k
  have hn := h.n2
  have hb := sumP_bd (p := pxt P) (xs := (chp P f (t - f).toNat).take ls.length) fun x hx => by
    have h1 := chp_mem.1 (List.mem_of_mem_take hx)
    have h2 := h.nt
    have h3 := h.n0
    exact (h.px (x := x) h1.1 (by omega)).2
  rw [← hI.sm, List.length_take] at hb
  omega
theorem ChI.fin {P : List Int} {f t n s : Int} {ls : List Int} (hv : chOk P f t n = true) (hI : ChI P f t n 1001 f ls s) : ls = chR P f t n ∧ s = chS P f t n := by
  have h := ChF.of hv
  have hk := hI.k
  have hn := h.nt
  have hE : (ls.length : Int) = n := by
    rcases hI.hi with h2 | h2
    · exact h2
    · by_cases e : (ls.length : Int) = n
      · exact e
      · have h3 := h2 ls.length (Int.le_refl _) (by omega)
        have h4 := h.at (i := ls.length) (by omega) (by omega)
        have h5 := (h.px h4.1 h4.2).2
        omega
  have e2 : ls.length = n.toNat := by omega
  rw [chR_y hv, chS_y hv, ← e2]
  refine ⟨?_, hI.sm⟩
  refine List.Perm.eq_of_pairwise (le := fun x y => decide (x ≤ y) = true) (fun a b _ _ h1 h2 => by simp only [decide_eq_true_eq] at *; omega) (hI.asc.imp fun h => by simp only [decide_eq_true_eq]; omega) (List.pairwise_mergeSort (fun a b c h1 h2 => by simp only [decide_eq_true_eq] at *; omega) (fun a b => by simp only [Bool.or_eq_true, decide_eq_true_eq]; omega) _) (hI.pm.trans (List.mergeSort_perm _ _).symm)
theorem chS_of {P : List Int} {f t n : Int} (hv : chOk P f t n = true) : chS P f t n = sumP (pxt P) (chR P f t n) := by
  rw [chR_y hv, chS_y hv]
  exact (sumP_perm (List.mergeSort_perm _ _)).symm
theorem chR_mem {P : List Int} {f t n x : Int} (hv : chOk P f t n = true) (hx : x ∈ chR P f t n) : f ≤ x ∧ x < t := by
  rw [chR_y hv] at hx
  have h := ChF.of hv
  have hn := h.nt
  have h0 := h.n0
  have := chp_mem.1 (List.mem_of_mem_take ((List.mergeSort_perm _ _).mem_iff.1 hx))
  omega
theorem chS_bd {P : List Int} {f t n : Int} (h : ChF P f t n) (hv : chOk P f t n = true) {i : Nat} : 0 ≤ sumP (pxt P) ((chR P f t n).take i) ∧ sumP (pxt P) ((chR P f t n).take i) ≤ 200000 := by
  have hb := sumP_bd (p := pxt P) (xs := (chR P f t n).take i) fun x hx => by
    have h1 := chR_mem hv (List.mem_of_mem_take hx)
    exact (h.px h1.1 h1.2).2
  have hl := chR_len (P := P) (f := f) (t := t) (n := n)
  rw [List.length_take] at hb
  omega
end Go.Proofs.Ytanlaggnhocjhaa

/- Sorting in place that keeps the order of equals, in plain terms: swaps, rotations, merging by symmetric comparisons. -/
import Derived.Test.YtanlaggnhocjhaaSort
namespace Go.Proofs.Ytanlaggnhocjhaa
set_option linter.unusedSimpArgs false
set_option linter.unusedVariables false
open Go.RowKit
theorem ixI_set' {D : List Int} {i j : Int} {x : Int} (hi : 0 ≤ i ∧ i < D.length) (hj : 0 ≤ j) : ix (D.set i.toNat x) j = if j = i then x else ix D j := by
  unfold ix
  rw [List.getD_eq_getElem?_getD, List.getD_eq_getElem?_getD]
  by_cases e : j = i
  · rw [if_pos e, e, List.getElem?_set_self (by omega)]; rfl
  · rw [if_neg e, List.getElem?_set_ne (by omega)]
theorem ix_elem' {xs : List Int} {j : Int} (h0 : 0 ≤ j) (hj : j.toNat < xs.length) : ix xs j = xs[j.toNat] := by simp [ix, hj]
/-- Two places swapped. -/
def sw2 (D : List Int) (i j : Int) : List Int := (D.set i.toNat (ix D j)).set j.toNat (ix D i)
theorem sw2_len {D : List Int} {i j : Int} : (sw2 D i j).length = D.length := by simp [sw2]
theorem sw2_perm {D : List Int} {i j : Int} (hi : 0 ≤ i ∧ i < D.length) (hj : 0 ≤ j ∧ j < D.length) : (sw2 D i j).Perm D := by
  have h1 : i.toNat < D.length := by omega
  have h2 : j.toNat < D.length := by omega
  have := @List.set_set_perm _ D _ _ h1 h2
  rw [sw2, ix_elem' hi.1 h1, ix_elem' hj.1 h2]
  exact this
theorem sw2_ix {D : List Int} {i j k : Int} (hi : 0 ≤ i ∧ i < D.length) (hj : 0 ≤ j ∧ j < D.length) (hk : 0 ≤ k) : ix (sw2 D i j) k = if k = j then ix D i else if k = i then ix D j else ix D k := by
  rw [sw2, ixI_set' (by rw [List.length_set]; exact hj) hk]
  split
  · rfl
  · exact ixI_set' hi hk
/-- Only the places from a to b, and these among themselves. -/
structure Fr (a b : Int) (D E : List Int) : Prop where
  l : E.length = D.length
  p : E.Perm D
  o : ∀ k : Int, 0 ≤ k → (k < a ∨ b ≤ k) → ix E k = ix D k
  s : ∀ k : Int, a ≤ k → k < b → ∃ j, a ≤ j ∧ j < b ∧ ix E k = ix D j
theorem Fr.refl {a b : Int} {D : List Int} : Fr a b D D := ⟨rfl, .refl _, fun _ _ _ => rfl, fun k h1 h2 => ⟨k, h1, h2, rfl⟩⟩
theorem Fr.trans {a b : Int} {D E F : List Int} (h : Fr a b D E) (h' : Fr a b E F) : Fr a b D F :=
  ⟨h'.l.trans h.l, h'.p.trans h.p, fun k h0 hk => (h'.o k h0 hk).trans (h.o k h0 hk), fun k h1 h2 => by
    obtain ⟨j, h3, h4, e⟩ := h'.s k h1 h2
    obtain ⟨i, h5, h6, e'⟩ := h.s j h3 h4
    exact ⟨i, h5, h6, e.trans e'⟩⟩
theorem Fr.mono {a b a' b' : Int} {D E : List Int} (h : Fr a b D E) (h0 : 0 ≤ a') (ha : a' ≤ a) (hb : b ≤ b') : Fr a' b' D E :=
  ⟨h.l, h.p, fun k h1 hk => h.o k h1 (by omega), fun k h1 h2 => by
    by_cases hk : a ≤ k ∧ k < b
    · obtain ⟨j, h3, h4, e⟩ := h.s k hk.1 hk.2
      exact ⟨j, by omega, by omega, e⟩
    · exact ⟨k, h1, h2, h.o k (by omega) (by omega)⟩⟩
theorem sw2_fr {D : List Int} {i j a b : Int} (h0 : 0 ≤ a) (hi : a ≤ i ∧ i < b) (hj : a ≤ j ∧ j < b) (hb : b ≤ D.length) : Fr a b D (sw2 D i j) :=
  ⟨sw2_len, sw2_perm (by omega) (by omega), fun k hk ho => by rw [sw2_ix (by omega) (by omega) hk, if_neg (by omega), if_neg (by omega)], fun k h1 h2 => by
    rw [sw2_ix (by omega) (by omega) (by omega)]
    split
    · exact ⟨i, by omega, by omega, rfl⟩
    · split
      · exact ⟨j, by omega, by omega, rfl⟩
      · exact ⟨k, h1, h2, rfl⟩⟩
/-- The order: by price, then by number. -/
def Lt2 (p : Int → Int) (x y : Int) : Prop := p x < p y ∨ (p x = p y ∧ x < y)
theorem Lt2.trans {p : Int → Int} {x y z : Int} (h : Lt2 p x y) (h' : Lt2 p y z) : Lt2 p x z := by
  unfold Lt2 at *
  omega
def Srt (p : Int → Int) (D : List Int) (a b : Int) : Prop := ∀ i j : Int, a ≤ i → i < j → j < b → Lt2 p (ix D i) (ix D j)
/-- Each before m was ahead of each from m on. -/
def Ahd (D : List Int) (a m b : Int) : Prop := ∀ i j : Int, a ≤ i → i < m → m ≤ j → j < b → ix D i < ix D j
theorem Srt.le {p : Int → Int} {D : List Int} {a b i j : Int} (h : Srt p D a b) (h1 : a ≤ i) (h2 : i ≤ j) (h3 : j < b) : p (ix D i) ≤ p (ix D j) := by
  rcases Int.lt_or_eq_of_le h2 with h4 | h4
  · have := h i j h1 h4 h3
    unfold Lt2 at this
    omega
  · rw [h4]; exact Int.le_refl _
theorem Srt.congr {p : Int → Int} {D E : List Int} {a b : Int} (h : Srt p D a b) (he : ∀ k, a ≤ k → k < b → ix E k = ix D k) : Srt p E a b := fun i j h1 h2 h3 => by
  rw [he i h1 (by omega), he j (by omega) h3]
  exact h i j h1 h2 h3
/-! Swapping two stretches of the same length. -/
structure Swr (a b n : Int) (D E : List Int) : Prop where
  l : E.length = D.length
  p : E.Perm D
  lo : ∀ k, a ≤ k → k < a + n → ix E k = ix D (k + (b - a))
  hi : ∀ k, b ≤ k → k < b + n → ix E k = ix D (k - (b - a))
  o : ∀ k, 0 ≤ k → ¬ (a ≤ k ∧ k < a + n) → ¬ (b ≤ k ∧ k < b + n) → ix E k = ix D k
theorem Swr.z {a b : Int} {D : List Int} : Swr a b 0 D D := ⟨rfl, .refl _, fun k h1 h2 => by omega, fun k h1 h2 => by omega, fun _ _ _ _ => rfl⟩
theorem Swr.st {a b n : Int} {D E : List Int} (h : Swr a b n D E) (h0 : 0 ≤ a) (hn : 0 ≤ n) (hab : a + n < b) (hb : b + n < D.length) : Swr a b (n + 1) D (sw2 E (a + n) (b + n)) := by
  have hl := h.l
  have hx : ∀ k, 0 ≤ k → ix (sw2 E (a + n) (b + n)) k = if k = b + n then ix E (a + n) else if k = a + n then ix E (b + n) else ix E k := fun k hk => sw2_ix (by omega) (by omega) hk
  refine ⟨sw2_len.trans hl, (sw2_perm (by omega) (by omega)).trans h.p, fun k h1 h2 => ?_, fun k h1 h2 => ?_, fun k hk h1 h2 => ?_⟩
  · rw [hx k (by omega), if_neg (by omega)]
    split
    · rw [h.o (b + n) (by omega) (by omega) (by omega)]; first | done | (congr 1; omega)
    · exact h.lo k h1 (by omega)
  · rw [hx k (by omega)]
    split
    · rw [h.o (a + n) (by omega) (by omega) (by omega)]; first | done | (congr 1; omega)
    · rw [if_neg (by omega)]
      exact h.hi k h1 (by omega)
  · rw [hx k hk, if_neg (by omega), if_neg (by omega)]
    exact h.o k hk (by omega) (by omega)
/-! Rotating. -/
structure Rot (a m b : Int) (D E : List Int) : Prop where
  l : E.length = D.length
  p : E.Perm D
  lo : ∀ k, a ≤ k → k < a + (b - m) → ix E k = ix D (k + (m - a))
  hi : ∀ k, a + (b - m) ≤ k → k < b → ix E k = ix D (k - (b - m))
  o : ∀ k, 0 ≤ k → (k < a ∨ b ≤ k) → ix E k = ix D k
theorem Rot.fr {a m b : Int} {D E : List Int} (h : Rot a m b D E) (ham : a ≤ m) (hmb : m ≤ b) : Fr a b D E :=
  ⟨h.l, h.p, h.o, fun k h1 h2 => by
    by_cases hk : k < a + (b - m)
    · exact ⟨k + (m - a), by omega, by omega, h.lo k h1 hk⟩
    · exact ⟨k - (b - m), by omega, by omega, h.hi k (by omega) h2⟩⟩
/-- What is left to do. -/
def RotL (a m b i j : Int) (D C : List Int) : Prop := C.length = D.length ∧ ∀ E, Rot (m - i) m (m + j) C E → Rot a m b D E
theorem RotL.z {a m b : Int} {D : List Int} : RotL a m b (m - a) (b - m) D D := ⟨rfl, fun E h => by
  rw [show m - (m - a) = a by omega, show m + (b - m) = b by omega] at h
  exact h⟩
theorem RotL.gt {a m b i j : Int} {D C C' : List Int} (h : RotL a m b i j D C) (hj : 0 < j) (hij : j < i) (h0 : 0 ≤ m - i) (hs : Swr (m - i) m j C C') : RotL a m b (i - j) j D C' := ⟨hs.l.trans h.1, fun E hr => h.2 E ⟨hr.l.trans hs.l, hr.p.trans hs.p, fun k h1 h2 => by
    by_cases hk : k < m - (i - j)
    · rw [hr.o k (by omega) (by omega), hs.lo k h1 (by omega)]
    · rw [hr.lo k (by omega) (by omega), hs.hi _ (by omega) (by omega)]; first | done | (congr 1; omega), fun k h1 h2 => by
    by_cases hk : k < m - (i - j) + j
    · rw [hr.lo k (by omega) (by omega), hs.hi _ (by omega) (by omega)]; first | done | (congr 1; omega)
    · rw [hr.hi k (by omega) (by omega), hs.o _ (by omega) (by omega) (by omega)]; first | done | (congr 1; omega), fun k h1 h2 => by
    rw [hr.o k h1 (by omega), hs.o k h1 (by omega) (by omega)]⟩⟩
theorem RotL.lt {a m b i j : Int} {D C C' : List Int} (h : RotL a m b i j D C) (hi : 0 < i) (hij : i < j) (h0 : 0 ≤ m - i) (hs : Swr (m - i) (m + j - i) i C C') : RotL a m b i (j - i) D C' := ⟨hs.l.trans h.1, fun E hr => h.2 E ⟨hr.l.trans hs.l, hr.p.trans hs.p, fun k h1 h2 => by
    by_cases hk : k < m - i + (j - i)
    · rw [hr.lo k (by omega) (by omega)]
      by_cases hk2 : k + i < m + j - i
      · rw [hs.o _ (by omega) (by omega) (by omega)]; first | done | (congr 1; omega)
      · omega
    · rw [hr.hi k (by omega) (by omega), hs.lo _ (by omega) (by omega)]; first | done | (congr 1; omega), fun k h1 h2 => by
    rw [hr.o k (by omega) (by omega), hs.hi k (by omega) (by omega)]; first | done | (congr 1; omega), fun k h1 h2 => by
    rw [hr.o k h1 (by omega), hs.o k h1 (by omega) (by omega)]⟩⟩
theorem RotL.fin {a m b i : Int} {D C E : List Int} (h : RotL a m b i i D C) (h0 : 0 ≤ m - i) (hi : 0 ≤ i) (hs : Swr (m - i) m i C E) : Rot a m b D E := h.2 E ⟨hs.l, hs.p, fun k h1 h2 => by
    rw [hs.lo k h1 (by omega)], fun k h1 h2 => by
    rw [hs.hi k (by omega) (by omega)]; first | done | (congr 1; omega), fun k h1 h2 => by
    rw [hs.o k h1 (by omega) (by omega)]⟩
/-! One element put into a sorted stretch. -/
/-- It has gone up from a to k. -/
structure Up1 (a k : Int) (D E : List Int) : Prop where
  l : E.length = D.length
  p : E.Perm D
  lo : ∀ t, a ≤ t → t < k → ix E t = ix D (t + 1)
  at' : ix E k = ix D a
  o : ∀ t, 0 ≤ t → (t < a ∨ k < t) → ix E t = ix D t
theorem Up1.z {a : Int} {D : List Int} : Up1 a a D D := ⟨rfl, .refl _, fun t h1 h2 => by omega, rfl, fun _ _ _ => rfl⟩
theorem Up1.st {a k : Int} {D E : List Int} (h : Up1 a k D E) (h0 : 0 ≤ a) (hk : a ≤ k) (hb : k + 1 < D.length) : Up1 a (k + 1) D (sw2 E k (k + 1)) := by
  have hl := h.l
  have hx : ∀ t, 0 ≤ t → ix (sw2 E k (k + 1)) t = if t = k + 1 then ix E k else if t = k then ix E (k + 1) else ix E t := fun t ht => sw2_ix (by omega) (by omega) ht
  refine ⟨sw2_len.trans hl, (sw2_perm (by omega) (by omega)).trans h.p, fun t h1 h2 => ?_, ?_, fun t h1 h2 => ?_⟩
  · rw [hx t (by omega), if_neg (by omega)]
    split
    · rename_i e
      rw [h.o (k + 1) (by omega) (by omega), e]
    · exact h.lo t h1 (by omega)
  · rw [hx (k + 1) (by omega), if_pos rfl]
    exact h.at'
  · rw [hx t h1, if_neg (by omega), if_neg (by omega)]
    exact h.o t h1 (by omega)
/-- It has gone down from m to k. -/
structure Dn1 (m k : Int) (D E : List Int) : Prop where
  l : E.length = D.length
  p : E.Perm D
  hi : ∀ t, k < t → t ≤ m → ix E t = ix D (t - 1)
  at' : ix E k = ix D m
  o : ∀ t, 0 ≤ t → (t < k ∨ m < t) → ix E t = ix D t
theorem Dn1.z {m : Int} {D : List Int} : Dn1 m m D D := ⟨rfl, .refl _, fun t h1 h2 => by omega, rfl, fun _ _ _ => rfl⟩
theorem Dn1.st {m k : Int} {D E : List Int} (h : Dn1 m k D E) (h0 : 1 ≤ k) (hk : k ≤ m) (hb : m < D.length) : Dn1 m (k - 1) D (sw2 E k (k - 1)) := by
  have hl := h.l
  have hx : ∀ t, 0 ≤ t → ix (sw2 E k (k - 1)) t = if t = k - 1 then ix E k else if t = k then ix E (k - 1) else ix E t := fun t ht => sw2_ix (by omega) (by omega) ht
  refine ⟨sw2_len.trans hl, (sw2_perm (by omega) (by omega)).trans h.p, fun t h1 h2 => ?_, ?_, fun t h1 h2 => ?_⟩
  · rw [hx t (by omega), if_neg (by omega)]
    split
    · rename_i e
      rw [h.o (k - 1) (by omega) (by omega), e]
    · exact h.hi t (by omega) h2
  · rw [hx (k - 1) (by omega), if_pos rfl]
    exact h.at'
  · rw [hx t h1, if_neg (by omega), if_neg (by omega)]
    exact h.o t h1 (by omega)
theorem Up1.fr {a k b : Int} {D E : List Int} (h : Up1 a k D E) (h0 : 0 ≤ a) (hk : a ≤ k) (hb : k < b) : Fr a b D E :=
  ⟨h.l, h.p, fun t h1 h2 => h.o t h1 (by omega), fun t h1 h2 => by
    by_cases h3 : t < k
    · exact ⟨t + 1, by omega, by omega, h.lo t h1 h3⟩
    · by_cases h4 : t = k
      · subst h4
        exact ⟨a, by omega, by omega, h.at'⟩
      · exact ⟨t, h1, h2, h.o t (by omega) (by omega)⟩⟩
theorem Dn1.fr {m k a b : Int} {D E : List Int} (h : Dn1 m k D E) (h0 : 0 ≤ a) (ha : a ≤ k) (hk : k ≤ m) (hb : m < b) : Fr a b D E :=
  ⟨h.l, h.p, fun t h1 h2 => h.o t h1 (by omega), fun t h1 h2 => by
    by_cases h3 : k < t ∧ t ≤ m
    · exact ⟨t - 1, by omega, by omega, h.hi t h3.1 h3.2⟩
    · by_cases h4 : t = k
      · subst h4
        exact ⟨m, by omega, by omega, h.at'⟩
      · exact ⟨t, h1, h2, h.o t (by omega) (by omega)⟩⟩
/-- The first into the rest. -/
theorem up1_srt {p : Int → Int} {D E : List Int} {a b i : Int} (h0 : 0 ≤ a) (hi : a + 1 ≤ i ∧ i ≤ b) (hs : Srt p D (a + 1) b) (ho : Ahd D a (a + 1) b) (h1 : ∀ h, a + 1 ≤ h → h < i → p (ix D h) < p (ix D a)) (h2 : ∀ h, i ≤ h → h < b → ¬ p (ix D h) < p (ix D a)) (he : Up1 a (i - 1) D E) : Srt p E a b := by
  have hE : ∀ t, a ≤ t → t < b → (t < i - 1 ∧ ix E t = ix D (t + 1)) ∨ (t = i - 1 ∧ ix E t = ix D a) ∨ (i ≤ t ∧ ix E t = ix D t) := fun t ht htb => by
    by_cases h3 : t < i - 1
    · exact .inl ⟨h3, he.lo t ht h3⟩
    · by_cases h4 : t = i - 1
      · exact .inr (.inl ⟨h4, by rw [h4]; exact he.at'⟩)
      · exact .inr (.inr ⟨by omega, he.o t (by omega) (by omega)⟩)
  intro x y hx hxy hy
  rcases hE x hx (by omega) with ⟨g1, e1⟩ | ⟨g1, e1⟩ | ⟨g1, e1⟩ <;> rcases hE y (by omega) hy with ⟨g2, e2⟩ | ⟨g2, e2⟩ | ⟨g2, e2⟩ <;> rw [e1, e2]
  · exact hs _ _ (by omega) (by omega) (by omega)
  · exact .inl (h1 _ (by omega) (by omega))
  · exact hs _ _ (by omega) (by omega) (by omega)
  · omega
  · omega
  · have h3 := h2 y g2 hy
    have h4 := ho a y (Int.le_refl _) (by omega) (by omega) hy
    unfold Lt2
    omega
  · omega
  · omega
  · exact hs _ _ (by omega) (by omega) (by omega)
/-- The last into the rest. -/
theorem dn1_srt {p : Int → Int} {D E : List Int} {a m i : Int} (h0 : 0 ≤ a) (hi : a ≤ i ∧ i ≤ m) (hs : Srt p D a m) (ho : Ahd D a m (m + 1)) (h1 : ∀ h, a ≤ h → h < i → ¬ p (ix D m) < p (ix D h)) (h2 : ∀ h, i ≤ h → h < m → p (ix D m) < p (ix D h)) (he : Dn1 m i D E) : Srt p E a (m + 1) := by
  have hE : ∀ t, a ≤ t → t < m + 1 → (t < i ∧ ix E t = ix D t) ∨ (t = i ∧ ix E t = ix D m) ∨ (i < t ∧ ix E t = ix D (t - 1)) := fun t ht htb => by
    by_cases h3 : t < i
    · exact .inl ⟨h3, he.o t (by omega) (by omega)⟩
    · by_cases h4 : t = i
      · exact .inr (.inl ⟨h4, by rw [h4]; exact he.at'⟩)
      · exact .inr (.inr ⟨by omega, he.hi t (by omega) (by omega)⟩)
  intro x y hx hxy hy
  rcases hE x hx (by omega) with ⟨g1, e1⟩ | ⟨g1, e1⟩ | ⟨g1, e1⟩ <;> rcases hE y (by omega) hy with ⟨g2, e2⟩ | ⟨g2, e2⟩ | ⟨g2, e2⟩ <;> rw [e1, e2]
  · exact hs _ _ (by omega) (by omega) (by omega)
  · have h3 := h1 x hx g1
    have h4 := ho x m hx (by omega) (Int.le_refl _) (by omega)
    unfold Lt2
    omega
  · exact hs _ _ (by omega) (by omega) (by omega)
  · omega
  · omega
  · exact .inl (h2 _ (by omega) (by omega))
  · omega
  · omega
  · exact hs _ _ (by omega) (by omega) (by omega)
/-! Merging. -/
/-- Where the search for the cut stands. -/
structure Cut (p : Int → Int) (D : List Int) (p0 a1 r1 s r : Int) : Prop where
  b : a1 ≤ s ∧ s ≤ r ∧ r ≤ r1
  lo : ∀ c, a1 ≤ c → c < s → ¬ p (ix D (p0 - c)) < p (ix D c)
  hi : ∀ c, r ≤ c → c < r1 → p (ix D (p0 - c)) < p (ix D c)
/-- The two that are cut, exchanged: all of the first half is less than all of the second. -/
theorem cut_x {p : Int → Int} {D : List Int} {a m b mid a1 r1 s : Int} (h1 : a < m ∧ m < b) (hmid : mid = (a + b) / 2) (hk : (m > mid ∧ a1 = mid + m - b ∧ r1 = mid) ∨ (m ≤ mid ∧ a1 = a ∧ r1 = m)) (hl : Srt p D a m) (hr : Srt p D m b) (ho : Ahd D a m b) (hc : Cut p D (mid + m - 1) a1 r1 s s) :
    (a ≤ s ∧ s ≤ m ∧ s ≤ mid ∧ m ≤ mid + m - s ∧ mid ≤ mid + m - s ∧ mid + m - s ≤ b) ∧ (∀ x y, a ≤ x → x < s → mid + m - s ≤ y → y < b → Lt2 p (ix D x) (ix D y)) ∧ (∀ y x, m ≤ y → y < mid + m - s → s ≤ x → x < m → Lt2 p (ix D y) (ix D x)) := by
  have hb := hc.b
  have hbd : a ≤ s ∧ s ≤ m ∧ s ≤ mid ∧ m ≤ mid + m - s ∧ mid ≤ mid + m - s ∧ mid + m - s ≤ b := by omega
  refine ⟨hbd, fun x y hx hxs hy hyb => ?_, fun y x hy hye hx hxm => ?_⟩
  · have h2 : a1 < s := by omega
    have h3 := hc.lo (s - 1) (by omega) (by omega)
    have h4 := hl.le (i := x) (j := s - 1) hx (by omega) (by omega)
    have h5 := hr.le (i := mid + m - 1 - (s - 1)) (j := y) (by omega) (by omega) hyb
    have h6 := ho x y hx (by omega) (by omega) hyb
    unfold Lt2
    omega
  · have h2 : s < r1 := by omega
    have h3 := hc.hi s (Int.le_refl _) (by omega)
    have h4 := hl.le (i := s) (j := x) (by omega) hx hxm
    have h5 := hr.le (i := y) (j := mid + m - 1 - s) hy (by omega) (by omega)
    unfold Lt2
    omega
/-- The cut halves. -/
structure Hlv (p : Int → Int) (D E : List Int) (a m b mid s e : Int) : Prop where
  f : Fr a b D E
  l1 : Srt p E a s
  l2 : Srt p E s mid
  o1 : Ahd E a s mid
  r1 : Srt p E mid e
  r2 : Srt p E e b
  o2 : Ahd E mid e b
  x : ∀ i j, a ≤ i → i < mid → mid ≤ j → j < b → Lt2 p (ix E i) (ix E j)
theorem hlv_of {p : Int → Int} {D E : List Int} {a m b mid a1 r1 s : Int} (h0 : 0 ≤ a) (h1 : a < m ∧ m < b) (hmid : mid = (a + b) / 2) (hk : (m > mid ∧ a1 = mid + m - b ∧ r1 = mid) ∨ (m ≤ mid ∧ a1 = a ∧ r1 = m)) (hl : Srt p D a m) (hr : Srt p D m b) (ho : Ahd D a m b) (hc : Cut p D (mid + m - 1) a1 r1 s s) (hR : Rot s m (mid + m - s) D E) : Hlv p D E a m b mid s (mid + m - s) := by
  obtain ⟨hbd, hx1, hx2⟩ := cut_x h1 hmid hk hl hr ho hc
  have e1 : ∀ k, a ≤ k → k < s → ix E k = ix D k := fun k g1 g2 => hR.o k (by omega) (by omega)
  have e2 : ∀ k, s ≤ k → k < mid → ix E k = ix D (k + (m - s)) := fun k g1 g2 => hR.lo k g1 (by omega)
  have e3 : ∀ k, mid ≤ k → k < mid + m - s → ix E k = ix D (k - (mid - s)) := fun k g1 g2 => by rw [hR.hi k (by omega) g2]; first | done | (congr 1; omega)
  have e4 : ∀ k, mid + m - s ≤ k → k < b → ix E k = ix D k := fun k g1 g2 => hR.o k (by omega) (by omega)
  refine ⟨(hR.fr (by omega) (by omega)).mono h0 (by omega) (by omega), fun i j g1 g2 g3 => ?_, fun i j g1 g2 g3 => ?_, fun i j g1 g2 g3 g4 => ?_, fun i j g1 g2 g3 => ?_, fun i j g1 g2 g3 => ?_, fun i j g1 g2 g3 g4 => ?_, fun i j g1 g2 g3 g4 => ?_⟩
  · rw [e1 i g1 (by omega), e1 j (by omega) g3]; exact hl i j g1 g2 (by omega)
  · rw [e2 i g1 (by omega), e2 j (by omega) g3]; exact hr _ _ (by omega) (by omega) (by omega)
  · rw [e1 i g1 g2, e2 j g3 g4]; exact ho _ _ g1 (by omega) (by omega) (by omega)
  · rw [e3 i g1 (by omega), e3 j (by omega) g3]; exact hl _ _ (by omega) (by omega) (by omega)
  · rw [e4 i g1 (by omega), e4 j (by omega) g3]; exact hr i j (by omega) g2 g3
  · rw [e3 i g1 g2, e4 j g3 g4]; exact ho _ _ (by omega) (by omega) (by omega) g4
  · by_cases c1 : i < s <;> by_cases c2 : j < mid + m - s
    · rw [e1 i g1 c1, e3 j g3 c2]; exact hl _ _ g1 (by omega) (by omega)
    · rw [e1 i g1 c1, e4 j (by omega) g4]; exact hx1 _ _ g1 c1 (by omega) g4
    · rw [e2 i (by omega) g2, e3 j g3 c2]; exact hx2 _ _ (by omega) (by omega) (by omega) (by omega)
    · rw [e2 i (by omega) g2, e4 j (by omega) g4]; exact hr _ _ (by omega) (by omega) g4
theorem Rot.none {a m b : Int} {D : List Int} (h : a = m ∨ m = b) (ham : a ≤ m) (hmb : m ≤ b) : Rot a m b D D := ⟨rfl, .refl _, fun k h1 h2 => by congr 1; omega, fun k h1 h2 => by congr 1; omega, fun _ _ _ => rfl⟩
/-- Both halves sorted. -/
theorem hlv_fin {p : Int → Int} {D E F G : List Int} {a m b mid s e : Int} (h0 : 0 ≤ a) (h1 : a ≤ mid ∧ mid ≤ b) (h : Hlv p D E a m b mid s e) (hf : Fr a mid E F) (hf2 : Srt p F a mid) (hg : Fr mid b F G) (hg2 : Srt p G mid b) : Fr a b D G ∧ Srt p G a b := by
  refine ⟨(h.f.trans (hf.mono h0 (Int.le_refl _) h1.2)).trans (hg.mono h0 h1.1 (Int.le_refl _)), fun i j g1 g2 g3 => ?_⟩
  by_cases c1 : j < mid
  · rw [hg.o i (by omega) (by omega), hg.o j (by omega) (by omega)]
    exact hf2 i j g1 g2 c1
  · by_cases c2 : mid ≤ i
    · exact hg2 i j c2 g2 g3
    · rw [hg.o i (by omega) (by omega)]
      obtain ⟨i', k1, k2, ei⟩ := hf.s i g1 (by omega)
      obtain ⟨j', k3, k4, ej⟩ := hg.s j (by omega) g3
      rw [ei, ej, hf.o j' (by omega) (by omega)]
      exact h.x _ _ k1 k2 k3 k4
theorem Hlv.sk1 {p : Int → Int} {D E : List Int} {a m b mid s e : Int} (h : Hlv p D E a m b mid s e) (hs : a = s ∨ s = mid) (hc : ¬ (a < s ∧ s < mid)) : Srt p E a mid := by
  rcases hs with hs | hs
  · rw [hs]; exact h.l2
  · rw [← hs]; exact h.l1
theorem Hlv.sk2 {p : Int → Int} {D E F : List Int} {a m b mid s e : Int} (h : Hlv p D E a m b mid s e) (h0 : 0 ≤ a) (ham : a ≤ mid) (hf : Fr a mid E F) (hs : mid = e ∨ e = b) : Srt p F mid b := by
  have hE : Srt p E mid b := by
    rcases hs with hs | hs
    · rw [hs]; exact h.r2
    · rw [← hs]; exact h.r1
  exact hE.congr fun k g1 g2 => hf.o k (by omega) (by omega)
theorem Hlv.q2 {p : Int → Int} {D E F : List Int} {a m b mid s e : Int} (h : Hlv p D E a m b mid s e) (h0 : 0 ≤ a) (ham : a ≤ mid) (hme : mid ≤ e) (hf : Fr a mid E F) : Srt p F mid e ∧ Srt p F e b ∧ Ahd F mid e b :=
  ⟨h.r1.congr fun k g1 g2 => hf.o k (by omega) (by omega), h.r2.congr fun k g1 g2 => hf.o k (by omega) (by omega), fun i j g1 g2 g3 g4 => by rw [hf.o i (by omega) (by omega), hf.o j (by omega) (by omega)]; exact h.o2 i j g1 g2 g3 g4⟩
end Go.Proofs.Ytanlaggnhocjhaa

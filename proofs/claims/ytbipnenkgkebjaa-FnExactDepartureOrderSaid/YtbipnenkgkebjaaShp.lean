/- Shunting moves, in plain terms. -/
import Derived.Test.YtbipnenkgkebjaaMov
import Derived.Test.YtbipnenkgkebjaaDts
import Derived.Test.YtbipnenkgkebjaaBlk2
namespace Go.Proofs.Ytbipnenkgkebjaa
set_option linter.unusedSimpArgs false
set_option linter.unusedVariables false
open Go.RowKit Go.ChangeShapes Go.WideShapes Go.ChangeAt Go.Deep
theorem fndI_nd {xs : List Int} (h : xs.Nodup) {j : Nat} (hj : j < xs.length) : fndI xs (ix xs (j : Int)) = j := by
  unfold fndI
  refine firstI_some (q := fun i : Nat => decide (ix xs i = ix xs (j : Int))) (decide_eq_true rfl) (fun i hi => decide_eq_false fun e => ?_) hj
  have e : ix xs (i : Int) = ix xs (j : Int) := e
  rw [ix_elem (by omega), ix_elem hj] at e
  exact (List.pairwise_iff_getElem.1 h) i j (by omega) hj hi e
theorem ix_take {α : Type} [Inhabited α] {xs : List α} {n j : Nat} (h : j < n) : ix (xs.take n) (j : Int) = ix xs (j : Int) := by
  unfold ix
  rw [Int.toNat_natCast, List.getD_eq_getElem?_getD, List.getD_eq_getElem?_getD, List.getElem?_take, if_pos h]
theorem nd_row {T : List (List Int)} (h : T.flatten.Nodup) {i : Nat} (hi : i < T.length) : (ix T i).Nodup ∧ ∀ v ∈ ix T i, plI T v = i := by
  rw [flat_at hi] at h
  obtain ⟨_, h2, h3⟩ := List.nodup_append.1 h
  obtain ⟨h4, _, _⟩ := List.nodup_append.1 h2
  refine ⟨h4, fun v hv => plI_at hi hv fun j hj hm => ?_⟩
  have hm' : v ∈ (T.take i).flatten := by
    rw [List.mem_flatten]
    refine ⟨ix T j, ?_, hm⟩
    rw [ix_elem (by omega)]
    exact List.mem_take_iff_getElem.2 ⟨j, by omega, rfl⟩
  exact h3 v hm' v (List.mem_append_left _ hv) rfl
theorem tk_last {d : Dep} (hn : DvN d) {i : Nat} (hi : i < d.T.length) {v : Int} {n : Nat} (hl : (ix d.T i).length = n + 1) (hv : v = ix (ix d.T i) (n : Int)) : tkB d.T v = true ∧ plI d.T v = i ∧ plK d.T v = n := by
  obtain ⟨h1, h2⟩ := nd_row hn.nd hi
  have hm : v ∈ ix d.T i := by rw [hv]; exact mem_ix (by omega) (by omega)
  have hp := h2 v hm
  have hk : plK d.T v = n := by
    rw [plK, hp, hv]
    exact fndI_nd h1 (by omega)
  exact ⟨tkB_y ⟨by omega, by rw [hk, hp]; omega⟩, hp, hk⟩
/-- The first other track with a free place. -/
def shF (d : Dep) (o : Int) : Int := firstI (fun t => decide ((t : Int) ≠ o ∧ ((ix d.T t).length : Int) < ix d.S t)) d.T.length
theorem shF_bd {d : Dep} {o : Int} : -1 ≤ shF d o ∧ shF d o < d.T.length := firstI_bd
theorem shF_val {d : Dep} {o : Int} (h : 0 ≤ shF d o) : shF d o ≠ o ∧ ((ix d.T (shF d o)).length : Int) < ix d.S (shF d o) := by
  have h1 := firstI_val (q := fun t : Nat => decide ((t : Int) ≠ o ∧ ((ix d.T t).length : Int) < ix d.S t)) (n := d.T.length) h
  rw [decide_eq_true_eq] at h1
  have e : ((shF d o).toNat : Int) = shF d o := by omega
  have h2 : ((shF d o).toNat : Int) ≠ o ∧ ((ix d.T ((shF d o).toNat : Int)).length : Int) < ix d.S ((shF d o).toNat : Int) := h1
  rwa [e] at h2
def shQ (d : Dep) (o : Int) (t : Nat) : Bool := decide ((t : Int) ≠ o ∧ ((ix d.T t).length : Int) < ix d.S t)
theorem shF_at {d : Dep} {o : Int} {t : Nat} (ht : t < d.T.length) (hq : shQ d o t = true) (hb : ∀ j, j < t → shQ d o j = false) : shF d o = t := firstI_some (q := shQ d o) hq hb ht
theorem shF_no {d : Dep} {o : Int} (hb : ∀ j, j < d.T.length → shQ d o j = false) : shF d o = -1 := firstI_none (q := shQ d o) hb
theorem shQ_y {d : Dep} {o : Int} {t : Nat} (h : ¬ (t : Int) = o) (h2 : ((ix d.T t).length : Int) < ix d.S t) : shQ d o t = true := decide_eq_true ⟨h, h2⟩
theorem shQ_n {d : Dep} {o : Int} {t : Nat} (h : (t : Int) = o ∨ ix d.S t ≤ ((ix d.T t).length : Int)) : shQ d o t = false := decide_eq_false fun ⟨h1, h2⟩ => by rcases h with h | h <;> omega
/-- The depot after some of the vehicles have been moved. -/
def shS (d : Dep) (o : Int) (bs : List Int) : Nat → Dep
  | 0 => d
  | m + 1 => pkD (tkD (shS d o bs m) (ix bs m)) (ix bs m) (shF (tkD (shS d o bs m) (ix bs m)) o)
def shU (d : Dep) (o : Int) (bs : List Int) (m : Nat) : Dep := tkD (shS d o bs m) (ix bs m)
theorem shS_s {d : Dep} {o : Int} {bs : List Int} {m : Nat} : shS d o bs (m + 1) = pkD (shU d o bs m) (ix bs m) (shF (shU d o bs m) o) := rfl
def shM (bs : List Int) : Nat → List Mv
  | 0 => []
  | m + 1 => shM bs m ++ [⟨ix bs m, true⟩, ⟨ix bs m, false⟩]
theorem shM_len {bs : List Int} : ∀ {m : Nat}, (shM bs m).length = 2 * m
  | 0 => rfl
  | m + 1 => by rw [shM, List.length_append, shM_len]; simp; omega
def shT (d : Dep) (o : Int) (bs : List Int) : Nat → List Int
  | 0 => []
  | m + 1 => shT d o bs m ++ [shF (shU d o bs m) o]
theorem shT_len {d : Dep} {o : Int} {bs : List Int} : ∀ {m : Nat}, (shT d o bs m).length = m
  | 0 => rfl
  | m + 1 => by rw [shT, List.length_append, shT_len]; rfl
def shO (d : Dep) (o : Int) (bs : List Int) : Bool := (List.range bs.length).all fun m => decide (0 ≤ shF (shU d o bs m) o)
theorem shO_y {d : Dep} {o : Int} {bs : List Int} (h : ∀ m, m < bs.length → 0 ≤ shF (shU d o bs m) o) : shO d o bs = true := by
  rw [shO, List.all_eq_true]
  intro m hm
  exact decide_eq_true (h m (List.mem_range.1 hm))
theorem shO_n {d : Dep} {o : Int} {bs : List Int} {m : Nat} (hm : m < bs.length) (h : shF (shU d o bs m) o < 0) : shO d o bs = false := by
  rw [shO, List.all_eq_false]
  exact ⟨m, List.mem_range.2 hm, by simp; omega⟩
/-- What is known on the way. -/
structure ShI (d0 : Dep) (o : Nat) (n : Nat) (d : Dep) : Prop where
  v : DvI d
  nn : DvN d
  l : d.T.length = d0.T.length
  s : d.S = d0.S
  r : ix d.T o = (ix d0.T o).take n
theorem ShI.u {d0 d : Dep} {o n : Nat} {b : Int} (h : ShI d0 o (n + 1) d) (ho : o < d0.T.length) (hn : n < (ix d0.T o).length) (hb : b = ix (ix d0.T o) (n : Int)) : ShI d0 o n (tkD d b) ∧ plI (tkD d b).T b < 0 ∧ (1 ≤ b ∧ b ≤ 99) ∧ tkB d.T b = true := by
  have hl : (ix d.T o).length = n + 1 := by rw [h.r, List.length_take]; omega
  have hv : b = ix (ix d.T o) (n : Int) := by
    rw [hb, h.r, ix_take (Nat.lt_succ_self n)]
  have hol : o < d.T.length := by rw [h.l]; exact ho
  obtain ⟨h1, h2, h3⟩ := tk_last h.nn hol hl hv
  have hk := h.nn.tk h1
  have hrg : 1 ≤ b ∧ b ≤ 99 := h.nn.rg b (plI_flat.1 (by omega))
  rw [tkD_y h1]
  refine ⟨⟨h.v.tk h1, hk.1, by simp [tkT, h.l], h.s, ?_⟩, hk.2, hrg, h1⟩
  show ix (tkT d.T b) (o : Int) = _
  rw [tkT, h2, h3, ix_setL hol, if_pos (by omega), h.r, List.take_take]
  congr 1
  omega
theorem ShI.p {d0 d : Dep} {o n : Nat} {b t : Int} (h : ShI d0 o n d) (ht : pkB d b t = true) (hto : t ≠ o) (ho : o < d0.T.length) : ShI d0 o n (pkD d b t) := by
  have h1 := pkB_t ht
  rw [pkD_y ht]
  refine ⟨h.v.pk ht, h.nn.pk ht, by simp [pkT, h.l], h.s, ?_⟩
  show ix (pkT d.T b t) (o : Int) = _
  rw [pkT, ix_setL (by rw [h.l]; exact ho), if_neg (by omega)]
  exact h.r
/-- Parking on a track with room succeeds. -/
theorem sh_pk {d : Dep} {b t : Int} (hp : plI d.T b < 0) (hb : 1 ≤ b ∧ b ≤ 99) (ht : 0 ≤ t ∧ t < (d.T.length : Int)) : pkB d b t = decide (((ix d.T t).length : Int) < ix d.S t) := by
  by_cases h : ((ix d.T t).length : Int) < ix d.S t
  · rw [decide_eq_true h]
    exact pkB_y ⟨⟨ht.1, ht.2, h⟩, hb, hp⟩
  · rw [decide_eq_false h]
    exact pkB_n fun h2 => h h2.1.2.2
theorem bs_at {xs : List Int} {k m : Nat} (hm : m < (xs.drop (k + 1)).reverse.length) : ix (xs.drop (k + 1)).reverse (m : Int) = ix xs ((xs.length - 1 - m : Nat) : Int) := by
  have hl : (xs.drop (k + 1)).reverse.length = xs.length - (k + 1) := by simp
  rw [ix_elem hm, List.getElem_reverse, List.getElem_drop, ix_elem (by omega)]
  congr 1
  simp
  omega
theorem ShI.go {d : Dep} {o k : Nat} (hv : DvI d) (hn : DvN d) (ho : o < d.T.length) {bs : List Int} (hbs : bs = ((ix d.T o).drop (k + 1)).reverse) : ∀ {m : Nat}, m ≤ bs.length → (∀ j, j < m → 0 ≤ shF (shU d o bs j) o) → ShI d o ((ix d.T o).length - m) (shS d o bs m)
  | 0, _, _ => ⟨hv, hn, rfl, rfl, by rw [Nat.sub_zero, List.take_length]; rfl⟩
  | m + 1, hm, hf => by
    have ih := ShI.go hv hn ho hbs (m := m) (by omega) (fun j hj => hf j (by omega))
    have hl : bs.length = (ix d.T o).length - (k + 1) := by rw [hbs]; simp
    have e : (ix d.T o).length - m = ((ix d.T o).length - (m + 1)) + 1 := by omega
    rw [e] at ih
    have hb : ix bs (m : Int) = ix (ix d.T o) (((ix d.T o).length - (m + 1) : Nat) : Int) := by
      rw [hbs, bs_at (by rw [← hbs]; omega)]
      congr 2
      omega
    obtain ⟨h1, h2, h3, _⟩ := ih.u ho (by omega) hb
    have hfm : 0 ≤ shF (shU d o bs m) o := hf m (Nat.lt_succ_self m)
    have hfv := shF_val hfm
    have hfb := shF_bd (d := shU d o bs m) (o := o)
    rw [shS_s]
    have h1 : ShI d o ((ix d.T o).length - (m + 1)) (shU d o bs m) := h1
    refine ShI.p h1 ?_ hfv.1 ho
    exact (sh_pk h2 h3 ⟨hfm, hfb.2⟩).trans (decide_eq_true hfv.2)
theorem ShI.go1 {d : Dep} {o k : Nat} (hv : DvI d) (hn : DvN d) (ho : o < d.T.length) {bs : List Int} (hbs : bs = ((ix d.T o).drop (k + 1)).reverse) {m : Nat} (hm : m < bs.length) (hf : ∀ j, j < m → 0 ≤ shF (shU d o bs j) o) : DvI (shS d o bs m) ∧ DvI (shU d o bs m) ∧ (shS d o bs m).T.length = d.T.length ∧ (shU d o bs m).T.length = d.T.length ∧ plI (shU d o bs m).T (ix bs m) < 0 ∧ (1 ≤ ix bs m ∧ ix bs m ≤ 99) ∧ tkB (shS d o bs m).T (ix bs m) = true := by
  have ih := ShI.go hv hn ho hbs (m := m) (by omega) hf
  have hl : bs.length = (ix d.T o).length - (k + 1) := by rw [hbs]; simp
  have e : (ix d.T o).length - m = ((ix d.T o).length - (m + 1)) + 1 := by omega
  have ih2 := ih
  rw [e] at ih2
  have hb : ix bs (m : Int) = ix (ix d.T o) (((ix d.T o).length - (m + 1) : Nat) : Int) := by
    rw [hbs, bs_at (by rw [← hbs]; omega)]
    congr 2
    omega
  obtain ⟨h1, h2, h3, h4⟩ := ih2.u ho (by omega) hb
  exact ⟨ih.v, h1.v, ih.l, h1.l, h2, h3, h4⟩
section
variable {P : Program} {ops : Array Oper} {C : World → Prop} {Q : Exit → Act → World → Prop} {N : Nat} {K : List (Nat × Pr)} {rest : List Oper} {d : Nat} {ty : TypeId} {pos : String} {af : Array Edge} {w0 : World} {L : List Osl}
theorem Sq_asU (t : Nat) {v : Value} (U : UR) {l : List Oper} (ht : lookK K t = some (.inl v)) (hU : ∀ w, C w → U.R v w) (h : Sq P ops N C Q ((t, .inr U) :: K) l) : Sq P ops N C Q K l := by
  unfold Sq at h ⊢
  intro a w hst
  refine h a w ⟨hst.size, hst.defers, fun t' p hp => ?_, hst.cls⟩
  by_cases e : t = t'
  · subst e
    rw [lookK_same] at hp
    injection hp with hp
    subst hp
    obtain ⟨u, hu, hv⟩ := hst.slots t _ ht
    have hv' : u = v := hv
    subst hv'
    exact ⟨u, hu, hU w hst.cls⟩
  · rw [lookK_ne _ e] at hp
    exact hst.slots t' p hp
theorem Sep.uPb {w : World} (h : Sep w0 L w) {m : Nat} {α : Type} [Inhabited α] {e : TypeId} {Ψ : Phi α} {z : α} {g : Nat} (hm : L[m]? = some (.sl α e Ψ [z] (.slice (some ⟨g, 0, none⟩) 1 1))) : (uP Ψ z).R (.pointer (some ⟨g, 0, none⟩)) w := by
  obtain ⟨b, c, h1, h2, h3⟩ := h.cell hm (proj_self (Ψ := Ψ)) (i := 0) ⟨by simp, by simp⟩
  rw [ptrAt_one] at h1
  injection h1 with h1
  injection h1 with h1
  injection h1 with h1
  subst h1
  exact ⟨_, _, c, rfl, by simpa using h2, h3⟩
end
/-- A depot in memory of its own, all of it newer than s blocks. -/
def uD (s : Nat) (d : Dep) : UR := ⟨fun v w => ∃ (w1 : World) (vS vT : Value) (vs : List Value), s ≤ w1.heap.size ∧ v = .agg (([vS, vT] : List Value)).toArray ∧ vs.length = d.T.length ∧ Sep w1 (dpL d vS vT vs) w, fun _ _ _ he ⟨w1, vS, vT, vs, h1, h2, h3, h4⟩ => ⟨w1, vS, vT, vs, h1, h2, h3, upC_sep _ _ h4 he⟩⟩
theorem Sep.low' {w1 q w' : World} {L : List Osl} (hE : Ext q w') (hs : q.heap.size ≤ w1.heap.size) (h : Sep w1 L w') : Sep q L w' := by
  unfold Sep at h ⊢
  obtain ⟨Bs, hl, hc⟩ := h
  exact ⟨Bs, hl, hE, hc.nd, fun g hg => Nat.le_trans hs (hc.lo g hg), hc.blk, hc.fct⟩
theorem Sep.depP {w0 w : World} {d : Dep} {vS vT : Value} {vs : List Value} {L0 : List Osl} {g : Nat} (h : Sep w0 (dpL d vS vT vs ++ .raw 29 g [vS, vT] :: L0) w) (hl : vs.length = d.T.length) : (uP bDep d).R (.pointer (some ⟨g, 0, none⟩)) w := by
  obtain ⟨cs, he, hφ⟩ := h.dep hl
  have e : cs = [vS, vT] := by
    injection he with he
    have := congrArg Array.toList he
    simpa using this.symm
  subst e
  refine ⟨g, 0, [vS, vT], rfl, fun j u hu => ?_, hφ⟩
  rw [Nat.zero_add]
  exact (h.raw get_mid).cell hu
section
variable {P : Program} {ops : Array Oper} {C : World → Prop} {Q : Exit → Act → World → Prop} {N : Nat} {K : List (Nat × Pr)} {w0 : World} {L : List Osl}
theorem Sq_openD {d : Dep} {wr : World} {l : List Oper} (t : Nat) (hS : Sep w0 L wr) (ht : lookK K t = some (.inr (uD wr.heap.size d)))
    (h : ∀ vS vT (vs : List Value), vs.length = d.T.length → Sq P ops N (Sep w0 (dpL d vS vT vs ++ L)) Q ((t, .inl (.agg (([vS, vT] : List Value)).toArray)) :: K) l) : Sq P ops N (Ext wr) Q K l := by
  unfold Sq at h ⊢
  intro a w hst
  obtain ⟨v, hv, w1, vS, vT, vs, h1, h2, h3, h4⟩ := hst.slots t _ ht
  subst h2
  refine h vS vT vs h3 a w ⟨hst.size, hst.defers, fun u p hp => ?_, hS.joinR (Sep.low' hst.cls h1 h4)⟩
  by_cases e : t = u
  · subst e
    rw [lookK_same] at hp
    injection hp with hp
    subst hp
    exact ⟨_, hv, rfl⟩
  · rw [lookK_ne _ e] at hp
    exact hst.slots u p hp
end
abbrev shK (g : Nat) (d : Dep) (vS vT : Value) (vs : List Value) (L : List Osl) : List Osl := dpL d vS vT vs ++ .raw 29 g [vS, vT] :: L
theorem get_mk {α : Type _} {L L2 : List α} {k : Nat} {o : α} (h : L2[k]? = some o) : (L ++ L2)[L.length + k]? = some o := by
  rw [List.getElem?_append_right (by omega)]
  simpa using h
theorem set_mk {α : Type _} {L L2 : List α} {k : Nat} {o : α} : (L ++ L2).set (L.length + k) o = L ++ L2.set k o := by
  rw [List.set_append_right _ _ (by omega)]
  simp
section
variable {P : Program} {ops : Array Oper} {Q : Exit → Act → World → Prop} {N : Nat} {K : List (Nat × Pr)} {rest : List Oper} {ty : TypeId} {pos : String} {af : Array Edge} {w0 : World} {L : List Osl}
theorem Sq_storeD {d d2 : Dep} {g : Nat} {vS vT vS2 vT2 : Value} {vs vs2 : List Value} {x y : Operand} {t : TypeId} (hav : avAll L 29) (hsz : allocB P t 2 = true) (hy : kn K y = some (.inl (.pointer (some ⟨g, 0, none⟩)))) (hx : kn K x = some (.inl (.agg (([vS2, vT2] : List Value)).toArray)))
    (h : Sq P ops N (Sep w0 (shK g d2 vS2 vT2 vs2 L)) Q (dropR K) rest) : Sq P ops N (Sep w0 (dpL d2 vS2 vT2 vs2 ++ shK g d vS vT vs L)) Q K (⟨none, .store t y x, ty, pos, af, none⟩ :: rest) := by
  refine Sq_weaken (C' := Sep w0 (dpL d2 vS2 vT2 vs2 ++ .raw 29 g [vS, vT] :: L)) (fun w' hc => (hc.perm (List.perm_append_comm_assoc _ _ _)).app) ?_
  refine Sq_cls (fun wq hq => ?_)
  have hone := dp_one hq
  refine Sq_storeRaw (dpL d2 vS2 vT2 vs2).length (k := 2) (vs := [vS2, vT2]) get_mid (avAll_dp (L0 := .raw _ _ _ :: L) ⟨trivial, hav⟩) hsz hy hx rfl (raw_ag hone) (Nat.le_refl _) ?_
  exact Sq_weaken (fun w' hc => by rw [set_mid rfl] at hc; exact hc) h
end
theorem cg_l15Take (d : Dep) (v : Int) (hd : DvI d) (htb : tkB d.T v = true) : CTG Try.prog 48 [.inr (uA bDep d), .inl (.int .i64 v)] (fun s => .inr (uT [.inr (uD s (tkD d v)), .inl (.bool true)])) := by
  have h0 := tkB_t htb
  have hb := plI_bd (T := d.T) (v := v)
  have hf := hd.f
  have hpl := ct_l15Track d v hf
  rw [if_neg (by omega)] at hpl
  have hk := plK_bd (T := d.T) (v := v) (by omega)
  have hi : 0 ≤ plI d.T v ∧ plI d.T v < (d.T.length : Int) := ⟨by omega, hb.2⟩
  have hrb := hd.row' hi
  refine CTG_of Try.func48 rfl rfl rfl (fun w s hs => ?_)
  refine H_weakenC (C' := Sep w []) (fun w1 h => sep_start h) ?_
  have hC : UpC (Sep w []) := upC_sep
  try any_goals (first | (refine H_seq ?_; try refine H_reg ?_) | refine H_reg ?_)
  try any_goals (refine W_boxA (d := 2) (sq_stepper upC_sep) rfl rfl rfl ?_)
  try any_goals (refine Sq_allocZ (d := 4) (n := 2) [.slice none 0 0, .slice none 0 0] (by kernel_rfl) (by kernel_rfl) rfl (fun g4 => ?_); have hC : UpC (Sep w [.raw 29 g4 [.slice none 0 0, .slice none 0 0]]) := upC_sep)
  try any_goals (refine W_assign (d := 5) (sq_stepper upC_sep) rfl rfl rfl ?_)
  try any_goals (first | (refine Sq_nil ?_; try refine G_then ?_) | refine G_then ?_)
  try any_goals (first | (refine H_seq ?_; try refine H_reg ?_) | refine H_reg ?_)
  try any_goals (refine W_loadA (d := 10) (sq_stepper upC_sep) (by kernel_rfl) rfl rfl rfl ?_)
  try any_goals (refine W_move (d := 11) (sq_stepper upC_sep) rfl rfl rfl ?_)
  try any_goals (refine W_ct (d := 12) (sq_stepper upC_sep) (hpl) rfl rfl rfl (by kernel_rfl) ?_)
  try any_goals (refine W_move (d := 9) (sq_stepper upC_sep) rfl rfl rfl ?_)
  try any_goals (refine W_extract (d := 13) (sq_stepper upC_sep) rfl rfl rfl rfl ?_)
  try any_goals (refine W_extract (d := 14) (sq_stepper upC_sep) rfl rfl rfl rfl ?_)
  try any_goals (refine W_assign (d := 6) (sq_stepper upC_sep) rfl rfl rfl ?_)
  try any_goals (refine W_assign (d := 7) (sq_stepper upC_sep) rfl rfl rfl ?_)
  try any_goals (first | (refine Sq_nil ?_; try refine G_then ?_) | refine G_then ?_)
  try any_goals (refine H_seq ?_)
  try any_goals (first | (refine H_seq ?_; try refine H_reg ?_) | refine H_reg ?_)
  try any_goals (refine W_move (d := 15) (sq_stepper upC_sep) rfl rfl rfl ?_)
  try any_goals (first | refine W_cmp (d := 16) (sq_stepper upC_sep) rfl rfl rfl rfl rfl ?_ | refine W_strcmp (d := 16) (sq_stepper upC_sep) rfl rfl rfl rfl rfl ?_)
  try any_goals (refine W_move (d := 17) (sq_stepper upC_sep) rfl rfl rfl ?_)
  try any_goals (first | refine W_gT (d := 18) (sq_stepper upC_sep) _ rfl rfl ?_ | refine W_gF (d := 18) (sq_stepper upC_sep) _ rfl rfl ?_ | (refine W_splitG (sq_stepper upC_sep) _ rfl _ rfl (fun hq => ?_) (fun hq => ?_) <;> ((try simp only [hqs, reduceCtorEq] at hq); try (have hq' := hq; clear hq))))
  try any_goals (first | refine W_skip (d := 18) (sq_stepper upC_sep) rfl rfl ?_ | refine W_move (d := 18) (sq_stepper upC_sep) rfl rfl rfl ?_)
  try any_goals (first | refine W_skip (d := 19) (sq_stepper upC_sep) rfl rfl ?_ | refine W_fieldG (d := 19) (sq_stepper upC_sep) (Proj.tail _ _ (Proj.head _ _ _)) (by kernel_rfl) rfl rfl rfl ?_ | refine W_fieldC (d := 19) (sq_stepper upC_sep) (off := 1) (by kernel_rfl) rfl rfl rfl ?_)
  try any_goals (first | refine W_skip (d := 20) (sq_stepper upC_sep) rfl rfl ?_ | refine W_loadS (d := 20) (sq_stepper upC_sep) (by kernel_rfl) rfl rfl rfl ?_)
  try any_goals (first | refine W_skip (d := 21) (sq_stepper upC_sep) rfl rfl ?_ | refine W_move (d := 21) (sq_stepper upC_sep) rfl rfl rfl ?_)
  try any_goals (first | refine W_skip (d := 22) (sq_stepper upC_sep) rfl rfl ?_ | refine W_index (d := 22) (sq_stepper upC_sep) (by kernel_rfl) rfl rfl rfl rfl (by first | omega | (dsimp only; omega)) ?_)
  try any_goals (first | refine W_skip (d := 23) (sq_stepper upC_sep) rfl rfl ?_ | refine W_loadS (d := 23) (sq_stepper upC_sep) (by kernel_rfl) rfl rfl rfl ?_)
  try any_goals (first | refine W_skip (d := 24) (sq_stepper upC_sep) rfl rfl ?_ | refine W_len (d := 24) (sq_stepper upC_sep) (by kernel_rfl) rfl rfl rfl ?_ | refine W_lenStr (d := 24) (sq_stepper upC_sep) (by kernel_rfl) rfl rfl rfl ?_)
  try any_goals (first | refine W_skip (d := 25) (sq_stepper upC_sep) rfl rfl ?_ | refine W_ar (d := 25) (sq_stepper upC_sep) rfl rfl rfl rfl rfl (by first | omega | (dsimp only; omega)) ?_)
  try any_goals (first | refine W_skip (d := 26) (sq_stepper upC_sep) rfl rfl ?_ | refine W_cmp (d := 26) (sq_stepper upC_sep) rfl rfl rfl rfl rfl ?_ | refine W_neqStr (d := 26) (sq_stepper upC_sep) rfl rfl rfl rfl ?_ | refine W_neqB (d := 26) (sq_stepper upC_sep) rfl rfl Try.underlying4 rfl rfl ?_)
  try any_goals (first | refine W_pickT (d := 27) (sq_stepper upC_sep) rfl rfl rfl rfl ?_ | refine W_pickF (d := 27) (sq_stepper upC_sep) rfl rfl rfl rfl ?_)
  try any_goals (first | (refine Sq_nil ?_; try refine G_then ?_) | refine G_then ?_)
  try any_goals (first | refine H_condT rfl ?_ | refine H_condF rfl (Wt.un 0 ?_) | (refine H_cond _ rfl (fun hq => ?_) (fun hq => Wt.un 0 ?_) <;> (try simp only [hqs, reduceCtorEq] at hq)))
  try any_goals (refine H_seq ?_)
  try any_goals (refine H_weakenC (C' := Sep w [.sl Dep 29 bDep [⟨[], []⟩] (.slice (some ⟨g4, 0, none⟩) 1 1)]) (fun w' h => Sep.asL (m := 0) h rfl dep_nil) ?_)
  try any_goals (refine H_reg ?_)
  try any_goals (refine W_loadA (d := 28) (sq_stepper upC_sep) (by kernel_rfl) rfl rfl rfl ?_)
  try any_goals (refine Sq_storeL 0 d rfl ⟨av_dep, trivial⟩ (by kernel_rfl) rfl rfl ?_)
  try any_goals (refine W_assign (d := 5) (sq_stepper upC_sep) rfl rfl rfl ?_)
  try any_goals (first | (refine Sq_nil ?_; try refine G_then ?_) | refine G_then ?_)
  try any_goals (refine H_ret ?_)
  repeat (any_goals (first | refine G_ret_then ?_ | refine G_ret_block ?_))
  try any_goals (refine G_hold 1 ?_)
  try any_goals (refine Wt.out 0 ?_)
  try any_goals (refine H_skip ?_)
  try any_goals (refine Wt.out 1 ?_)
  try any_goals (refine G_then ?_)
  try any_goals (first | (refine H_seq ?_; try refine H_reg ?_) | refine H_reg ?_)
  try any_goals (refine W_loadA (d := 29) (sq_stepper upC_sep) (by kernel_rfl) rfl rfl rfl ?_)
  try any_goals ((refine Sq_ctxD (fun w1 => cx_l15Own d hf w1) rfl rfl (by kernel_rfl) (fun y hl => ?_); obtain ⟨vS, vT, vs⟩ := y; have hl : vs.length = d.T.length := hl))
  try any_goals (refine Sq_allocS (d := 8) (n := 2) (by kernel_rfl) rfl (fun g8 cs8 hcs8 => ?_))
  try any_goals (refine Sq_cls (fun wq hq => ?_); have hone := dp_one (Sep.drop hq); refine Sq_storeRaw 0 (k := 2) (vs := [vS, vT]) rfl ⟨trivial, avAll_dp ⟨trivial, trivial⟩⟩ (by kernel_rfl) rfl rfl rfl (raw_ag hone) (by rw [hcs8]; exact Nat.le_refl _) ?_; rw [putL_all (by rw [hcs8]; rfl), List.set_cons_zero]; refine Sq_weaken (C' := Sep w (dpL d vS vT vs ++ [.raw 29 g8 [vS, vT], .raw 29 g4 [.slice none 0 0, .slice none 0 0]])) (fun w' h => h.perm List.perm_middle.symm) ?_)
  try any_goals (first | (refine Sq_nil ?_; try refine G_then ?_) | refine G_then ?_)
  try any_goals (refine H_seq ?_)
  try any_goals (refine H_draw' (by kernel_rfl) upC_sep ?_)
  try any_goals (first | refine W_fieldG (d := 31) wk_stepper (Proj.tail _ _ (Proj.head _ _ _)) (by kernel_rfl) rfl rfl rfl ?_ | refine W_fieldC (d := 31) wk_stepper (off := 1) (by kernel_rfl) rfl rfl rfl ?_)
  try any_goals (refine W_loadRaw (d := 32) (dpL d vS vT vs).length wk_stepper get_mid (by kernel_rfl) rfl rfl rfl rfl ?_)
  try any_goals (refine W_move (d := 33) wk_stepper rfl rfl rfl ?_)
  try any_goals (first | refine W_fieldG (d := 34) wk_stepper (Proj.tail _ _ (Proj.head _ _ _)) (by kernel_rfl) rfl rfl rfl ?_ | refine W_fieldC (d := 34) wk_stepper (off := 1) (by kernel_rfl) rfl rfl rfl ?_)
  try any_goals (refine W_loadRaw (d := 35) (dpL d vS vT vs).length wk_stepper get_mid (by kernel_rfl) rfl rfl rfl rfl ?_)
  try any_goals (refine W_move (d := 36) wk_stepper rfl rfl rfl ?_)
  try any_goals (refine W_idxS1 (d := 37) 1 wk_stepper rfl rfl (by kernel_rfl) rfl rfl rfl rfl ⟨by omega, by omega⟩ ?_)
  try any_goals (refine W_loadSV (d := 38) 1 wk_stepper rfl ⟨by omega, by omega⟩ (by kernel_rfl) rfl rfl rfl ?_)
  try any_goals (refine W_move (d := 39) wk_stepper rfl rfl rfl ?_)
  try any_goals (refine W_sliceSVTo (d := 40) ((plI d.T v).toNat + 2) wk_stepper (dpL_rowI hl hi) (by omega) (by kernel_rfl) rfl rfl rfl rfl ⟨by omega, by omega⟩ ?_)
  try any_goals (refine W_idxS1 (d := 41) 1 wk_stepper rfl rfl (by kernel_rfl) rfl rfl rfl rfl ⟨by omega, by omega⟩ ?_)
  try any_goals (refine Wk_none (by kernel_rfl) (by kernel_rfl) ?_)
  try any_goals (refine Sq_subE ((plI d.T v).toNat + 2) (dpL_rowI hl hi) (by omega) (fun hsub => ?_); refine Sq_storeSV 1 rfl (avAll_dp (L0 := [Osl.raw _ _ _, Osl.raw _ _ _]) ⟨trivial, trivial, trivial⟩) ⟨by omega, by omega⟩ (by kernel_rfl) (hsub _ _) rfl rfl ?_; refine Sq_weaken (C' := Sep w (dpL ⟨d.S, d.T.set (plI d.T v).toNat ((ix d.T (plI d.T v)).take (plK d.T v).toNat)⟩ vS vT (vs.set (plI d.T v).toNat (subV (ix vs (plI d.T v)) 0 (plK d.T v))) ++ [.raw 29 g8 [vS, vT], .raw 29 g4 [.slice none 0 0, .slice none 0 0]])) (fun w' hc => by have h2 := Sep.cut hc (m := (plI d.T v).toNat + 2) (k := plK d.T v) (hm_far (dpL_rowI hl hi) (by omega)) hk; rw [dpL_set hl hi] at h2; exact h2) ?_)
  try any_goals (first | (refine Sq_nil ?_; try refine G_then ?_) | refine G_then ?_)
  try any_goals (first | (refine H_seq ?_; try refine H_reg ?_) | refine H_reg ?_)
  try any_goals (refine W_loadRawA (d := 42) (dpL ⟨d.S, d.T.set (plI d.T v).toNat ((ix d.T (plI d.T v)).take (plK d.T v).toNat)⟩ vS vT (vs.set (plI d.T v).toNat (subV (ix vs (plI d.T v)) 0 (plK d.T v)))).length (sq_stepper upC_sep) get_mid (by kernel_rfl) rfl rfl rfl rfl ?_)
  try any_goals (refine Sq_storeRaw ((dpL ⟨d.S, d.T.set (plI d.T v).toNat ((ix d.T (plI d.T v)).take (plK d.T v).toNat)⟩ vS vT (vs.set (plI d.T v).toNat (subV (ix vs (plI d.T v)) 0 (plK d.T v)))).length + 1) (k := 2) (vs := [vS, vT]) (cs := [.slice none 0 0, .slice none 0 0]) (b := g4) (e := 29) (by simp) (avAll_dp (L0 := [Osl.raw _ _ _, Osl.raw _ _ _]) ⟨trivial, trivial, trivial⟩) (by kernel_rfl) rfl rfl rfl (raw_ag hone) (Nat.le_refl _) ?_)
  try any_goals (refine W_assign (d := 5) (sq_stepper upC_sep) rfl rfl rfl ?_)
  try any_goals (first | (refine Sq_nil ?_; try refine G_then ?_) | refine G_then ?_)
  try any_goals (refine H_ret ?_)
  repeat (any_goals (first | refine G_ret_then ?_ | refine G_ret_block ?_))
  all_goals first
    | (exfalso; omega)
    | (refine R_c1 ((dpL ⟨d.S, d.T.set (plI d.T v).toNat ((ix d.T (plI d.T v)).take (plK d.T v).toNat)⟩ vS vT (vs.set (plI d.T v).toNat (subV (ix vs (plI d.T v)) 0 (plK d.T v)))).length + 1) (b := g4) (e := 29) (cs := [vS, vT]) (k := 2) rfl (by kernel_rfl) (fun _ h => h.ext) rfl rfl (hm_set (o := Osl.raw 29 g4 [.slice none 0 0, .slice none 0 0]) (by simp)) rfl (fun w' hc => ?_) (fun v w' _ hv => hv)
       rw [set_two] at hc
       rw [tkD_y htb]
       exact ⟨w, vS, vT, _, hs, rfl, by simp only [tkT, pkT, List.length_set]; exact hl, hc.appL⟩)
    | trace_state
theorem cg_l15Park (d : Dep) (v tr : Int) (hd : DvI d) (htb : pkB d v tr = true) : CTG Try.prog 52 [.inr (uA bDep d), .inl (.int .i64 v), .inl (.int .i64 tr)] (fun s => .inr (uT [.inr (uD s (pkD d v tr)), .inl (.bool true)])) := by
  have h0 := pkB_t htb
  have hb := plI_bd (T := d.T) (v := v)
  have hf := hd.f
  have hdl := hd.l
  have hdn := hd.n
  have hpl := ct_l15Track d v hf
  refine CTG_of Try.func52 rfl rfl rfl (fun w s hs => ?_)
  refine H_weakenC (C' := Sep w []) (fun w1 h => sep_start h) ?_
  have hC : UpC (Sep w []) := upC_sep
  try any_goals (first | (refine H_seq ?_; try refine H_reg ?_) | refine H_reg ?_)
  try any_goals (refine W_boxA (d := 3) (sq_stepper upC_sep) rfl rfl rfl ?_)
  try any_goals (refine Sq_allocZ (d := 6) (n := 2) [.slice none 0 0, .slice none 0 0] (by kernel_rfl) (by kernel_rfl) rfl (fun g6 => ?_); have hC : UpC (Sep w [.raw 29 g6 [.slice none 0 0, .slice none 0 0]]) := upC_sep)
  try any_goals (refine W_assign (d := 7) (sq_stepper upC_sep) rfl rfl rfl ?_)
  try any_goals (first | (refine Sq_nil ?_; try refine G_then ?_) | refine G_then ?_)
  try any_goals (refine H_seq ?_)
  try any_goals (refine H_seq ?_)
  try any_goals (refine H_draw' (by kernel_rfl) upC_sep ?_)
  try any_goals (refine W_move (d := 11) wk_stepper rfl rfl rfl ?_)
  try any_goals (first | refine W_fieldG (d := 12) wk_stepper (Proj.head _ _ _) (by kernel_rfl) rfl rfl rfl ?_ | refine W_fieldC (d := 12) wk_stepper (off := 0) (by kernel_rfl) rfl rfl rfl ?_)
  try any_goals (refine W_loadS (d := 13) wk_stepper (by kernel_rfl) rfl rfl rfl ?_)
  try any_goals (first | refine W_len (d := 14) wk_stepper (by kernel_rfl) rfl rfl rfl ?_ | refine W_lenStr (d := 14) wk_stepper (by kernel_rfl) rfl rfl rfl ?_)
  try any_goals (refine W_ar (d := 15) wk_stepper rfl rfl rfl rfl rfl (by first | omega | (dsimp only; omega)) ?_)
  try any_goals (refine W_ct (d := 16) wk_stepper (ct_l1In _ _ _) rfl rfl rfl (by kernel_rfl) ?_)
  try any_goals (refine W_not (d := 17) wk_stepper rfl rfl rfl ?_)
  try any_goals (refine W_move (d := 18) wk_stepper rfl rfl rfl ?_)
  try any_goals (first | refine W_gT (d := 19) wk_stepper _ rfl rfl ?_ | refine W_gF (d := 19) wk_stepper _ rfl rfl ?_ | (refine W_splitG wk_stepper _ rfl _ rfl (fun hq => ?_) (fun hq => ?_) <;> ((try simp only [hqs, reduceCtorEq] at hq); try (have hq' := hq; clear hq))))
  try any_goals (first | refine W_skip (d := 19) wk_stepper rfl rfl ?_ | refine W_fieldG (d := 19) wk_stepper (Proj.tail _ _ (Proj.head _ _ _)) (by kernel_rfl) rfl rfl rfl ?_ | refine W_fieldC (d := 19) wk_stepper (off := 1) (by kernel_rfl) rfl rfl rfl ?_)
  try any_goals (first | refine W_skip (d := 20) wk_stepper rfl rfl ?_ | refine W_loadS (d := 20) wk_stepper (by kernel_rfl) rfl rfl rfl ?_)
  try any_goals (first | refine W_skip (d := 21) wk_stepper rfl rfl ?_ | refine W_move (d := 21) wk_stepper rfl rfl rfl ?_)
  try any_goals (first | refine W_skip (d := 22) wk_stepper rfl rfl ?_ | refine W_index (d := 22) wk_stepper (by kernel_rfl) rfl rfl rfl rfl (by first | omega | (dsimp only; omega)) ?_)
  try any_goals (first | refine W_skip (d := 23) wk_stepper rfl rfl ?_ | refine W_loadS (d := 23) wk_stepper (by kernel_rfl) rfl rfl rfl ?_)
  try any_goals (first | refine W_skip (d := 24) wk_stepper rfl rfl ?_ | refine W_len (d := 24) wk_stepper (by kernel_rfl) rfl rfl rfl ?_ | refine W_lenStr (d := 24) wk_stepper (by kernel_rfl) rfl rfl rfl ?_)
  try any_goals (first | refine W_skip (d := 25) wk_stepper rfl rfl ?_ | refine W_fieldG (d := 25) wk_stepper (Proj.head _ _ _) (by kernel_rfl) rfl rfl rfl ?_ | refine W_fieldC (d := 25) wk_stepper (off := 0) (by kernel_rfl) rfl rfl rfl ?_)
  try any_goals (first | refine W_skip (d := 26) wk_stepper rfl rfl ?_ | refine W_loadS (d := 26) wk_stepper (by kernel_rfl) rfl rfl rfl ?_)
  try any_goals (first | refine W_skip (d := 27) wk_stepper rfl rfl ?_ | refine W_move (d := 27) wk_stepper rfl rfl rfl ?_)
  try any_goals (first | refine W_skip (d := 28) wk_stepper rfl rfl ?_ | refine W_index (d := 28) wk_stepper (by kernel_rfl) rfl rfl rfl rfl (by first | omega | (dsimp only; omega)) ?_)
  try any_goals (first | refine W_skip (d := 29) wk_stepper rfl rfl ?_ | refine W_loadI (d := 29) wk_stepper (by kernel_rfl) rfl rfl rfl ?_)
  try any_goals (first | refine W_skip (d := 30) wk_stepper rfl rfl ?_ | refine W_cmp (d := 30) wk_stepper rfl rfl rfl rfl rfl ?_ | refine W_eqlStr (d := 30) wk_stepper rfl rfl rfl rfl ?_ | refine W_eqlB (d := 30) wk_stepper rfl rfl Try.underlying4 rfl rfl ?_)
  try any_goals (first | refine W_pickT (d := 31) wk_stepper rfl rfl rfl rfl ?_ | refine W_pickF (d := 31) wk_stepper rfl rfl rfl rfl ?_)
  try any_goals (refine W_move (d := 32) wk_stepper rfl rfl rfl ?_)
  try any_goals (first | refine W_gT (d := 33) wk_stepper _ rfl rfl ?_ | refine W_gF (d := 33) wk_stepper _ rfl rfl ?_ | (refine W_splitG wk_stepper _ rfl _ rfl (fun hq => ?_) (fun hq => ?_) <;> ((try simp only [hqs, reduceCtorEq] at hq); try (have hq' := hq; clear hq))))
  try any_goals (first | refine W_skip (d := 33) wk_stepper rfl rfl ?_ | refine W_move (d := 33) wk_stepper rfl rfl rfl ?_)
  try any_goals (first | refine W_skip (d := 34) wk_stepper rfl rfl ?_ | refine W_ct (d := 34) wk_stepper (ct_l1In _ _ _) rfl rfl rfl (by kernel_rfl) ?_)
  try any_goals (first | refine W_skip (d := 35) wk_stepper rfl rfl ?_ | refine W_not (d := 35) wk_stepper rfl rfl rfl ?_)
  try any_goals (first | refine W_pickT (d := 36) wk_stepper rfl rfl rfl rfl ?_ | refine W_pickF (d := 36) wk_stepper rfl rfl rfl rfl ?_)
  try any_goals (refine Wk_end (by kernel_rfl) (by kernel_rfl) ?_)
  try any_goals (refine G_then ?_)
  try any_goals (first | refine H_condT rfl ?_ | refine H_condF rfl (Wt.un 0 ?_) | (refine H_cond _ rfl (fun hq => ?_) (fun hq => Wt.un 0 ?_) <;> (try simp only [hqs, reduceCtorEq] at hq)))
  try any_goals (refine H_seq ?_)
  try any_goals (refine H_weakenC (C' := Sep w [.sl Dep 29 bDep [⟨[], []⟩] (.slice (some ⟨g6, 0, none⟩) 1 1)]) (fun w' h => Sep.asL (m := 0) h rfl dep_nil) ?_)
  try any_goals (refine H_reg ?_)
  try any_goals (refine W_loadA (d := 37) (sq_stepper upC_sep) (by kernel_rfl) rfl rfl rfl ?_)
  try any_goals (refine Sq_storeL 0 d rfl ⟨av_dep, trivial⟩ (by kernel_rfl) rfl rfl ?_)
  try any_goals (refine W_assign (d := 7) (sq_stepper upC_sep) rfl rfl rfl ?_)
  try any_goals (first | (refine Sq_nil ?_; try refine G_then ?_) | refine G_then ?_)
  try any_goals (refine H_ret ?_)
  repeat (any_goals (first | refine G_ret_then ?_ | refine G_ret_block ?_))
  try any_goals (refine G_hold 1 ?_)
  try any_goals (refine Wt.out 0 ?_)
  try any_goals (refine H_skip ?_)
  try any_goals (refine Wt.out 1 ?_)
  try any_goals (refine G_then ?_)
  try any_goals (refine H_seq ?_)
  try any_goals (first | (refine H_seq ?_; try refine H_reg ?_) | refine H_reg ?_)
  try any_goals (refine W_loadA (d := 39) (sq_stepper upC_sep) (by kernel_rfl) rfl rfl rfl ?_)
  try any_goals (refine W_move (d := 40) (sq_stepper upC_sep) rfl rfl rfl ?_)
  try any_goals (refine W_ct (d := 41) (sq_stepper upC_sep) (hpl) rfl rfl rfl (by kernel_rfl) ?_)
  try any_goals (refine W_move (d := 38) (sq_stepper upC_sep) rfl rfl rfl ?_)
  try any_goals (refine W_extract (d := 42) (sq_stepper upC_sep) rfl rfl rfl rfl ?_)
  try any_goals (refine W_extract (d := 43) (sq_stepper upC_sep) rfl rfl rfl rfl ?_)
  try any_goals (refine W_assign (d := 8) (sq_stepper upC_sep) rfl rfl rfl ?_)
  try any_goals (refine W_assign (d := 9) (sq_stepper upC_sep) rfl rfl rfl ?_)
  try any_goals (first | (refine Sq_nil ?_; try refine G_then ?_) | refine G_then ?_)
  try any_goals (first | (refine H_seq ?_; try refine H_reg ?_) | refine H_reg ?_)
  try any_goals (refine W_move (d := 44) (sq_stepper upC_sep) rfl rfl rfl ?_)
  try any_goals (first | refine W_cmp (d := 45) (sq_stepper upC_sep) rfl rfl rfl rfl rfl ?_ | refine W_strcmp (d := 45) (sq_stepper upC_sep) rfl rfl rfl rfl rfl ?_)
  try any_goals (first | (refine Sq_nil ?_; try refine G_then ?_) | refine G_then ?_)
  try any_goals (first | refine H_condT rfl ?_ | refine H_condF rfl (Wt.un 2 ?_) | (refine H_cond _ rfl (fun hq => ?_) (fun hq => Wt.un 2 ?_) <;> (try simp only [hqs, reduceCtorEq] at hq)))
  try any_goals (refine H_seq ?_)
  try any_goals (refine H_weakenC (C' := Sep w [.sl Dep 29 bDep [⟨[], []⟩] (.slice (some ⟨g6, 0, none⟩) 1 1)]) (fun w' h => Sep.asL (m := 0) h rfl dep_nil) ?_)
  try any_goals (refine H_reg ?_)
  try any_goals (refine W_loadA (d := 46) (sq_stepper upC_sep) (by kernel_rfl) rfl rfl rfl ?_)
  try any_goals (refine Sq_storeL 0 d rfl ⟨av_dep, trivial⟩ (by kernel_rfl) rfl rfl ?_)
  try any_goals (refine W_assign (d := 7) (sq_stepper upC_sep) rfl rfl rfl ?_)
  try any_goals (first | (refine Sq_nil ?_; try refine G_then ?_) | refine G_then ?_)
  try any_goals (refine H_ret ?_)
  repeat (any_goals (first | refine G_ret_then ?_ | refine G_ret_block ?_))
  try any_goals (refine G_hold 3 ?_)
  try any_goals (refine Wt.out 2 ?_)
  try any_goals (refine H_skip ?_)
  try any_goals (refine Wt.out 3 ?_)
  try any_goals (refine G_then ?_)
  try any_goals (first | (refine H_seq ?_; try refine H_reg ?_) | refine H_reg ?_)
  try any_goals (refine W_loadA (d := 47) (sq_stepper upC_sep) (by kernel_rfl) rfl rfl rfl ?_)
  try any_goals ((refine Sq_ctxD (fun w1 => cx_l15Own d hf w1) rfl rfl (by kernel_rfl) (fun y hl => ?_); obtain ⟨vS, vT, vs⟩ := y; have hl : vs.length = d.T.length := hl))
  try any_goals (refine Sq_allocS (d := 10) (n := 2) (by kernel_rfl) rfl (fun g8 cs8 hcs8 => ?_))
  try any_goals (refine Sq_cls (fun wq hq => ?_); have hone := dp_one (Sep.drop hq); refine Sq_storeRaw 0 (k := 2) (vs := [vS, vT]) rfl ⟨trivial, avAll_dp ⟨trivial, trivial⟩⟩ (by kernel_rfl) rfl rfl rfl (raw_ag hone) (by rw [hcs8]; exact Nat.le_refl _) ?_; rw [putL_all (by rw [hcs8]; rfl), List.set_cons_zero]; refine Sq_weaken (C' := Sep w (dpL d vS vT vs ++ [.raw 29 g8 [vS, vT], .raw 29 g6 [.slice none 0 0, .slice none 0 0]])) (fun w' h => h.perm List.perm_middle.symm) ?_)
  try any_goals (first | (refine Sq_nil ?_; try refine G_then ?_) | refine G_then ?_)
  try any_goals (refine H_seq ?_)
  try any_goals (have hti : 0 ≤ tr ∧ tr < (d.T.length : Int) := ⟨by omega, by omega⟩; have hrb := hd.row' hti)
  try any_goals (refine H_drawA [3, 4, 5, 6, 7, 8, 9] [0, 1, 2] [11, 12] 10 59 (fun w => Blk w g8 29 [vS, vT]) (fun v59 : Value => v59) (fun v59 => Sep w ((dpL d vS vT vs ++ [Osl.raw 29 g8 [vS, vT], Osl.raw 29 g6 [.slice none 0 0, .slice none 0 0]]).set (tr.toNat + 2) (Osl.sl Int 3 pI (ix d.T tr ++ [v]) v59))) (by kernel_rfl) (by kernel_rfl) (by kernel_rfl) rfl rfl upC_sep (fun _ => upC_sep) (fun w h => h.raw get_mid) (fun y w h => h.raw (hm_far get_mid (by simp only [dpL, List.length_cons, rowsZ_len hl]; omega))) ?_)
  try any_goals (first | refine W_fieldG (d := 52) wa_stepper (Proj.tail _ _ (Proj.head _ _ _)) (by kernel_rfl) rfl rfl rfl ?_ | refine W_fieldC (d := 52) wa_stepper (off := 1) (by kernel_rfl) rfl rfl rfl ?_)
  try any_goals (refine W_loadRaw (d := 53) (dpL d vS vT vs).length wa_stepper get_mid (by kernel_rfl) rfl rfl rfl rfl ?_)
  try any_goals (refine W_move (d := 54) wa_stepper rfl rfl rfl ?_)
  try any_goals (refine W_idxS1 (d := 55) 1 wa_stepper rfl rfl (by kernel_rfl) rfl rfl rfl rfl ⟨by omega, by omega⟩ ?_)
  try any_goals (refine W_loadSV (d := 56) 1 wa_stepper rfl ⟨by omega, by omega⟩ (by kernel_rfl) rfl rfl rfl ?_)
  try any_goals (refine W_move (d := 57) wa_stepper rfl rfl rfl ?_)
  try any_goals (refine W_buildS (d := 58) wa_stepper [(Operand.tmp 57)] pI [_] (e := 3) (by kernel_rfl) (by kernel_rfl) rfl rfl (by kernel_rfl) rfl rfl rfl ⟨elem_I, trivial⟩ ?_)
  try any_goals (refine WA_nil (WrOb_appS (tr.toNat + 2) rfl (dpL_rowI hl hti) (avAll_dp (L0 := [Osl.raw _ _ _, Osl.raw _ _ _]) ⟨trivial, trivial, trivial⟩) (by kernel_rfl) (by kernel_rfl) rfl rfl rfl ⟨by simp only [List.length_cons, List.length_nil]; omega, by simp⟩) ?_)
  try any_goals (refine A_one rfl ?_)
  try any_goals (first | refine W_fieldG (d := 49) wl1_stepper (Proj.tail _ _ (Proj.head _ _ _)) (by kernel_rfl) rfl rfl rfl ?_ | refine W_fieldC (d := 49) wl1_stepper (off := 1) (by kernel_rfl) rfl rfl rfl ?_)
  try any_goals (refine A_end ?_)
  try any_goals (refine A_one rfl ?_)
  try any_goals (refine W_loadO (d := 50) wl1_stepper (by kernel_rfl) rfl rfl rfl (fun w' h => Blk.cell h rfl) ?_)
  try any_goals (refine A_end ?_)
  try any_goals (refine A_one rfl ?_)
  try any_goals (refine W_move (d := 51) wl1_stepper rfl rfl rfl ?_)
  try any_goals (refine A_end ?_)
  try any_goals (refine A_nil (fun v59 => ?_))
  try any_goals (refine W_idxS1 (d := 60) 1 (sq_stepper upC_sep) (hm_far (o := Osl.sl Value 22 pV vs vT) rfl (by omega)) rfl (by kernel_rfl) rfl rfl rfl rfl ⟨by omega, by omega⟩ ?_)
  try any_goals (refine Sq_slV (tr.toNat + 2) (hm_set (dpL_rowI hl hti)) (fun hv59 => ?_); refine Sq_storeSV 1 (hm_far (o := Osl.sl Value 22 pV vs vT) rfl (by omega)) ((avAll_dp (L0 := [Osl.raw _ _ _, Osl.raw _ _ _]) ⟨trivial, trivial, trivial⟩).set trivial) ⟨by omega, by omega⟩ (by kernel_rfl) hv59 rfl rfl ?_; rw [dpL_set' hl hti])
  try any_goals (first | (refine Sq_nil ?_; try refine G_then ?_) | refine G_then ?_)
  try any_goals (first | (refine H_seq ?_; try refine H_reg ?_) | refine H_reg ?_)
  try any_goals (refine W_loadRawA (d := 61) (dpL ⟨d.S, d.T.set tr.toNat (ix d.T tr ++ [v])⟩ vS vT (vs.set tr.toNat v59)).length (sq_stepper upC_sep) get_mid (by kernel_rfl) rfl rfl rfl rfl ?_)
  try any_goals (refine Sq_storeRaw ((dpL ⟨d.S, d.T.set tr.toNat (ix d.T tr ++ [v])⟩ vS vT (vs.set tr.toNat v59)).length + 1) (k := 2) (vs := [vS, vT]) (cs := [.slice none 0 0, .slice none 0 0]) (b := g6) (e := 29) (by simp) (avAll_dp (L0 := [Osl.raw _ _ _, Osl.raw _ _ _]) ⟨trivial, trivial, trivial⟩) (by kernel_rfl) rfl rfl rfl (raw_ag hone) (Nat.le_refl _) ?_)
  try any_goals (refine W_assign (d := 7) (sq_stepper upC_sep) rfl rfl rfl ?_)
  try any_goals (first | (refine Sq_nil ?_; try refine G_then ?_) | refine G_then ?_)
  try any_goals (refine H_ret ?_)
  repeat (any_goals (first | refine G_ret_then ?_ | refine G_ret_block ?_))
  all_goals (try have hs8 := fun (h : 0 ≤ tr ∧ tr < (d.T.length : Int)) => by have := hd.s tr.toNat (by omega); rw [show ((tr.toNat : Nat) : Int) = tr by omega] at this; exact this)
  all_goals first
    | (exfalso; omega)
    | (refine R_c1 ((dpL ⟨d.S, d.T.set tr.toNat (ix d.T tr ++ [v])⟩ vS vT (vs.set tr.toNat v59)).length + 1) (b := g6) (e := 29) (cs := [vS, vT]) (k := 2) rfl (by kernel_rfl) (fun _ h => h.ext) rfl rfl (hm_set (o := Osl.raw 29 g6 [.slice none 0 0, .slice none 0 0]) (by simp)) rfl (fun w' hc => ?_) (fun v w' _ hv => hv)
       rw [set_two] at hc
       rw [pkD_y htb]
       exact ⟨w, vS, vT, _, hs, rfl, by simp only [tkT, pkT, List.length_set]; exact hl, hc.appL⟩)
    | trace_state
end Go.Proofs.Ytbipnenkgkebjaa

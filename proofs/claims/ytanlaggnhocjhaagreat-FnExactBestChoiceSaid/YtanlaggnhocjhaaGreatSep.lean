/-
  A function's own memory as a list of things, each with the list that it reads as: slices, and single blocks.
-/
import Derived.Test.YtanlaggnhocjhaaGreatMark
namespace Go.Proofs.YtanlaggnhocjhaaGreat
set_option linter.unusedSimpArgs false
set_option linter.unusedVariables false
open Go.RowKit

inductive Osl : Type 1
  | sl (α : Type) (e : TypeId) (Ψ : Phi α) (xs : List α) (v : Value)
  | raw (e : TypeId) (g : Nat) (cs : List Value)
def Osl.at (o : Osl) (x : Option Nat × TypeId × List Value) (w : World) : Prop := match o with
  | .sl _ e Ψ xs v => ∃ c, x.2.1 = e ∧ (∃ p, v = .slice p xs.length c ∧ pOf x.1 p c) ∧ xs.length ≤ c ∧ c ≤ maxLen ∧ x.2.2.length = c * Ψ.k ∧ (x.1 = none → xs = []) ∧ LS Ψ xs x.2.2 w
  | .raw e g cs => x = (some g, e, cs)
def Osl.Av (o : Osl) (t : TypeId) : Prop := match o with
  | .sl _ _ Ψ _ _ => Ψ.Av t
  | .raw _ _ _ => True
def avAll : List Osl → TypeId → Prop
  | [], _ => True
  | o :: L, t => o.Av t ∧ avAll L t
theorem avAll.get : ∀ {L : List Osl} {t : TypeId} {m : Nat} {o : Osl}, avAll L t → L[m]? = some o → o.Av t
  | [], _, _, _, _, h => by simp at h
  | o :: L, _, 0, _, ha, h => by simp at h; subst h; exact ha.1
  | o :: L, _, m + 1, _, ha, h => avAll.get ha.2 (m := m) (by simpa using h)
theorem Osl.at_up {o : Osl} {x : Option Nat × TypeId × List Value} {w w' : World} (h : o.at x w) (he : Ext w w') : o.at x w' := by
  cases o with
  | sl α e Ψ xs v => obtain ⟨c, h1, h2, h3, h4, h5, h6, h7⟩ := h; exact ⟨c, h1, h2, h3, h4, h5, h6, upC_ls _ _ h7 he⟩
  | raw e g cs => exact h
theorem Osl.at_st {o : Osl} {x : Option Nat × TypeId × List Value} {t : TypeId} {w w' : World} (h : o.at x w) (ha : o.Av t) (hs : SameBut t w w') : o.at x w' := by
  cases o with
  | sl α e Ψ xs v => obtain ⟨c, h1, h2, h3, h4, h5, h6, h7⟩ := h; exact ⟨c, h1, h2, h3, h4, h5, h6, stF_ls ha _ _ hs h7⟩
  | raw e g cs => exact h
/-- What the blocks read as. -/
def FctL (L : List Osl) (Bs : BL) (w : World) : Prop := ∀ (m : Nat) (o : Osl) (x : Option Nat × TypeId × List Value), L[m]? = some o → Bs[m]? = some x → o.at x w
theorem upC_fct {L : List Osl} {Bs : BL} : UpC (FctL L Bs) := fun _ _ h he m o x h1 h2 => Osl.at_up (h m o x h1 h2) he
theorem stF_fct {L : List Osl} {Bs : BL} {t : TypeId} (ha : avAll L t) : StF t (FctL L Bs) := fun _ _ hs h m o x h1 h2 => Osl.at_st (h m o x h1 h2) (ha.get h1) hs
def Sep (w0 : World) (L : List Osl) (w : World) : Prop := ∃ Bs : BL, Bs.length = L.length ∧ Cls w0 Bs (FctL L Bs) w
theorem upC_sep {w0 : World} {L : List Osl} : UpC (Sep w0 L) := fun _ _ ⟨Bs, hl, h⟩ he => ⟨Bs, hl, upC_cls upC_fct _ _ h he⟩
theorem sep_start {w0 w : World} (h : Ext w0 w) : Sep w0 [] w := ⟨[], rfl, (cls_ext w h).fact fun _ m o x h1 => by simp at h1⟩
theorem Sep.ext {w0 w : World} {L : List Osl} (h : Sep w0 L w) : Ext w0 w := let ⟨_, _, h⟩ := h; h.ext
theorem Sep.get {w0 w : World} {L : List Osl} (h : Sep w0 L w) {m : Nat} {α : Type} {e : TypeId} {Ψ : Phi α} {xs : List α} {v : Value} (hm : L[m]? = some (.sl α e Ψ xs v)) :
    ∃ A c cs, (∃ p, v = .slice p xs.length c ∧ pOf A p c) ∧ xs.length ≤ c ∧ c ≤ maxLen ∧ cs.length = c * Ψ.k ∧ (A = none → xs = []) ∧ LS Ψ xs cs w ∧ BlkO w (A, e, cs) ∧ ∀ g, A = some g → w0.heap.size ≤ g := by
  obtain ⟨Bs, hl, h⟩ := h
  have hml : m < Bs.length := by rw [hl]; exact (List.getElem?_eq_some_iff.1 hm).1
  have hx := List.getElem?_eq_getElem hml
  obtain ⟨c, h1, h2, h3, h4, h5, h6, h7⟩ := h.fct m _ _ hm hx
  have hb := h.blk _ (List.mem_of_getElem? hx)
  have hlo := h.lo
  generalize Bs[m] = x at *
  obtain ⟨A, e', cs⟩ := x
  simp only at h1 h2 h5 h6 h7
  subst h1
  exact ⟨A, c, cs, h2, h3, h4, h5, h6, h7, hb, fun g hg => hlo g (List.mem_filterMap.2 ⟨_, List.mem_of_getElem? hx, hg⟩)⟩
theorem Sep.raw {w0 w : World} {L : List Osl} (h : Sep w0 L w) {m : Nat} {e : TypeId} {g : Nat} {cs : List Value} (hm : L[m]? = some (.raw e g cs)) : Blk w g e cs := by
  obtain ⟨Bs, hl, h⟩ := h
  have hml : m < Bs.length := by rw [hl]; exact (List.getElem?_eq_some_iff.1 hm).1
  have hx := List.getElem?_eq_getElem hml
  have := h.fct m _ _ hm hx
  have e2 : Bs[m] = (some g, e, cs) := this
  rw [e2] at hx
  exact h.get hx
theorem Sep.isS {w0 w : World} {L : List Osl} (h : Sep w0 L w) {m : Nat} {α : Type} {e : TypeId} {Ψ : Phi α} {xs : List α} {v : Value} (hm : L[m]? = some (.sl α e Ψ xs v)) : IsS (some e) Ψ xs v w := by
  obtain ⟨A, c, cs, h1, h2, h3, h4, h5, h6, h7, h8⟩ := h.get hm
  exact OS.isS (S := fun _ => True) ⟨A, _, c, cs, h1, rfl, h2, h3, h4, h7, fun _ _ => trivial, h5, h6⟩
theorem Sep.isO {w0 w : World} {L : List Osl} (h : Sep w0 L w) {m s : Nat} {α : Type} {e : TypeId} {Ψ : Phi α} {xs : List α} {v : Value} {hfl : Flat Ψ} (hm : L[m]? = some (.sl α e Ψ xs v)) (hs : s ≤ w0.heap.size) : (uO s (oF e Ψ hfl) xs).R v w := by
  obtain ⟨A, c, cs, h1, h2, h3, h4, h5, h6, h7, h8⟩ := h.get hm
  refine ⟨fun b => A = some b, fun b hb => ?_, A, _, c, cs, h1, rfl, h2, h3, h4, h7, fun _ h => h, h5, h6⟩
  subst hb
  exact ⟨Nat.le_trans hs (h8 b rfl), Blk.lt (h7 : Blk w b e cs)⟩
theorem Sep.drop {w0 w : World} {L : List Osl} {o : Osl} (h : Sep w0 (o :: L) w) : Sep w0 L w := by
  obtain ⟨Bs, hl, h⟩ := h
  cases Bs with
  | nil => simp at hl
  | cons x Bs => exact ⟨Bs, by simpa using hl, h.drop.fact fun hf m o x h1 h2 => hf (m + 1) o x (by simpa using h1) (by simpa using h2)⟩
theorem Sep.drop1 {w0 w : World} {L : List Osl} {o o' : Osl} (h : Sep w0 (o :: o' :: L) w) : Sep w0 (o :: L) w := by
  obtain ⟨Bs, hl, h⟩ := h
  match Bs, hl with
  | x :: y :: Bs, hl =>
    refine ⟨x :: Bs, by simpa using hl, h.drop1.fact fun hf m o'' x' h1 h2 => ?_⟩
    cases m with
    | zero => exact hf 0 _ _ (by simpa using h1) (by simpa using h2)
    | succ m => exact hf (m + 2) _ _ (by simpa using h1) (by simpa using h2)

def ptrOf (v : Value) (o : Nat) : Value := match v with | .slice (some a) _ _ => .pointer (some ⟨a.block, o, none⟩) | _ => undef
/-- The address of a cell of a place of a slice. -/
def ptrAt (v : Value) (i : Int) (k off : Nat) : Value := ptrOf v (i.toNat * k + off)
theorem Sep.slc {w0 w : World} {L : List Osl} (h : Sep w0 L w) {m : Nat} {α : Type} {e : TypeId} {Ψ : Phi α} {xs : List α} {v : Value} (hm : L[m]? = some (.sl α e Ψ xs v)) (hp : 0 < (xs.length : Int)) :
    ∃ b c cs, v = .slice (some ⟨b, 0, none⟩) xs.length c ∧ xs.length ≤ c ∧ cs.length = c * Ψ.k ∧ LS Ψ xs cs w ∧ Blk w b e cs := by
  obtain ⟨A, c, cs, h1, h2, h3, h4, h5, h6, h7, h8⟩ := h.get hm
  cases A with
  | none => rw [h5 rfl] at hp; simp at hp
  | some b =>
    obtain ⟨p, h1, h1'⟩ := h1
    rw [h1'.some_] at h1
    exact ⟨b, c, cs, h1, h2, h4, h6, h7⟩

section
variable {P : Program} {ops : Array Oper} {Q : Exit → Act → World → Prop} {N : Nat} {M : List (Nat × Pr) → List Oper → Prop} {K : List (Nat × Pr)} {rest : List Oper} {d : Nat} {op : Op} {ty : TypeId} {pos : String} {af : Array Edge} {g : Option (Nat × Bool)}
  {w0 : World} {L : List Osl} {C : World → Prop}

/-- append. -/
theorem Sq_appS (m : Nat) {α : Type} {Ψ : Phi α} {xs zs : List α} {v : Value} {es : Option TypeId} {t e : TypeId} {x y : Operand} (hm : L[m]? = some (.sl α e Ψ xs v)) (hav : avAll L e) (hk : Nat.blt 0 Ψ.k = true) (hB : appB P t e Ψ.k = true) (hN : Nat.blt d N = true)
    (hx : kn K x = some (.inl v)) (hy : kn K y = some (.inr (uS es Ψ zs))) (hb : xs.length + zs.length ≤ 1073741824 ∧ 0 < zs.length)
    (h : ∀ v', Sq P ops N (Sep w0 (L.set m (.sl α e Ψ (xs ++ zs) v'))) Q ((d, .inl v') :: dropR K) rest) :
    Sq P ops N (Sep w0 L) Q K (⟨some d, .call { callee := .builtin .append, args := #[x, y], argTypes := #[t, t] }, ty, pos, af, none⟩ :: rest) := by
  unfold Sq
  intro a w hst
  obtain ⟨Bs, hl, hc⟩ := hst.cls
  have hml : m < Bs.length := by rw [hl]; exact (List.getElem?_eq_some_iff.1 hm).1
  have hbx := List.getElem?_eq_getElem hml
  obtain ⟨c, h1, ⟨p, h2, h2p⟩, h3, h4, h5, h6, h7⟩ := hc.fct m _ _ hm hbx
  generalize hX : Bs[m] = X at *
  obtain ⟨A, e', cs⟩ := X
  simp only at h1 h2 h2p h5 h6 h7
  subst h1 h2
  have hst' : St N K (Cls w0 Bs (FctL L Bs)) a w := hst.cls' hc
  have key := Sq_appendP (P := P) (ops := ops) (Q := Q) (rest := rest) (ty := ty) (pos := pos) (af := af) (F := FctL L Bs) m (zs := zs) (Ψ := Ψ) h2p upC_fct (stF_fct hav) (hav.get hm) hk hB hN hx hy hbx ⟨h5, h3, h4, hb.1, hb.2⟩ (fun g' c' cs' news hg hn hc' hcl htk hF => by
    have hsq := h (.slice (some ⟨g', 0, none⟩) (xs.length + zs.length) c')
    refine Sq_weaken (fun w' hw => ?_) hsq
    refine ⟨Bs.set m (some g', e', cs'), by simp [hl], hw.fact fun hf m' o x hm' hx' => ?_⟩
    by_cases em : m = m'
    · subst em
      rw [List.getElem?_set_self (by omega)] at hm' hx'
      injection hm' with hm'
      injection hx' with hx'
      subst hm' hx'
      obtain ⟨c0, _, h2', _, _, _, _, h7'⟩ := hf.1 m _ _ hm hbx
      exact ⟨c', rfl, ⟨_, by rw [List.length_append]; rfl, .inl rfl⟩, by rw [List.length_append]; exact hn, hc', hcl, (fun h => by cases h), ls_app rfl rfl (by rw [h5]; exact Nat.mul_le_mul_right _ h3) h7' hf.2 htk⟩
    · rw [List.getElem?_set_ne em] at hm' hx'
      exact hf.1 m' o x hm' hx')
  unfold Sq at key
  exact key a w hst'
theorem sep_cons {w : World} {Bs : BL} {x : Option Nat × TypeId × List Value} {o : Osl} (hl : Bs.length = L.length) (h : Cls w0 (x :: Bs) (FctL L Bs) w) (ho : o.at x w) : Sep w0 (o :: L) w :=
  ⟨x :: Bs, by simp [hl], ⟨h.ext, h.nd, h.lo, h.blk, fun m o' x' h1 h2 => by
    cases m with
    | zero => simp at h1 h2; subst h1 h2; exact ho
    | succ m => exact h.fct m o' x' (by simpa using h1) (by simpa using h2)⟩⟩
/-- A slice by literal. -/
theorem Sq_buildS (xs : List Operand) {α : Type} (Ψ : Phi α) (zs : List α) {ps : List Pr} {t e : TypeId} {len : Nat} {parts : Array (Nat × Operand)} (hk : Nat.blt 0 Ψ.k = true) (hB : appB P t e Ψ.k = true) (hparts : parts.toList = (xs.zipIdx 0).map fun x => (x.2, x.1)) (hlen : len = xs.length) (hsm : Nat.ble (len * Ψ.k) 16777216 = true)
    (hN : Nat.blt d N = true) (hargs : knAll K xs = some ps) (hels : ElsP Ψ ps zs) (hzl : zs.length = len)
    (h : ∀ v', Sq P ops N (Sep w0 (.sl α e Ψ zs v' :: L)) Q ((d, .inl v') :: K) rest) : Sq P ops N (Sep w0 L) Q K (⟨some d, .buildSlice t len parts, ty, pos, af, none⟩ :: rest) := by
  unfold Sq
  intro a w hst
  obtain ⟨Bs, hl, hc⟩ := hst.cls
  have hst' : St N K (Cls w0 Bs (FctL L Bs)) a w := hst.cls' hc
  have hsm' : len * Ψ.k ≤ 16777216 := Nat.le_of_ble_eq_true hsm
  have hk' : 0 < Ψ.k := Nat.le_of_ble_eq_true hk
  have key := Sq_buildC (P := P) (ops := ops) (Q := Q) (rest := rest) (ty := ty) (pos := pos) (af := af) (F := FctL L Bs) xs Ψ zs upC_fct hk hB hparts hlen hsm hN hargs hels (fun g cs hg hcs hF => by
    refine Sq_weaken (fun w' hw => ?_) (h (.slice (some ⟨g, 0, none⟩) len len))
    refine sep_cons hl (hw.fact fun hf => hf.1) ⟨len, rfl, ⟨_, by rw [hzl]; rfl, .inl rfl⟩, by omega, ?_, hcs, (fun h => by cases h), hw.fct.2⟩
    have : len * 1 ≤ len * Ψ.k := Nat.mul_le_mul_left _ hk'
    simp only [maxLen]
    omega)
  unfold Sq at key
  exact key a w hst'
theorem made_LS {α : Type} {Ψ : Phi α} {z : α} {zc : Array Value} {n : Nat} {w : World} (hz : zc.size = Ψ.k) (hφ : Ψ.φ z zc.toList w) : LS Ψ (List.replicate n z) (madeCells zc (n * Ψ.k)).toList w := fun j y hj => by
  have hjn : j < n := by have := (List.getElem?_eq_some_iff.1 hj).1; rwa [List.length_replicate] at this
  rw [List.getElem?_replicate, if_pos hjn] at hj
  injection hj with hj
  subst hj
  have e : ((madeCells zc (n * Ψ.k)).toList.drop (j * Ψ.k)).take Ψ.k = zc.toList := by
    apply List.ext_getElem?
    intro f
    by_cases hf : f < Ψ.k
    · have h1 : j * Ψ.k + Ψ.k ≤ n * Ψ.k := mul_far hjn
      rw [List.getElem?_take, if_pos hf, List.getElem?_drop]
      have e1 : (j * Ψ.k + f) % zc.size = f := by rw [hz, Nat.mul_comm, Nat.mul_add_mod, Nat.mod_eq_of_lt hf]
      simp only [madeCells, Array.toList_map, Array.toList_range, List.getElem?_map]
      rw [List.getElem?_range (by omega)]
      simp only [Option.map_some, e1]
      have hfz : f < zc.size := by omega
      simp [hfz]
    · rw [List.getElem?_eq_none (by simp; omega), List.getElem?_eq_none (by simp; omega)]
  rw [e]
  exact hφ
/-- make. -/
theorem Sq_makeS {α : Type} (Ψ : Phi α) (z : α) (zs : List Value) {t e : TypeId} {x y : Operand} {n : Int} (hB : makeB P t e Ψ.k = true) (hz : (zeroOf P e).size = Ψ.k) (hzc : (zeroOf P e).toList = zs) (hφ0 : ∀ w, Ψ.φ z zs w) (hN : Nat.blt d N = true)
    (hx : kn K x = some (.inl (.int .i64 n))) (hy : kn K y = some (.inl (.int .i64 n))) (h0 : 0 ≤ n ∧ n * 4096 ≤ 281474976710656)
    (h : ∀ v', Sq P ops N (Sep w0 (.sl α e Ψ (List.replicate n.toNat z) v' :: L)) Q ((d, .inl v') :: K) rest) : Sq P ops N (Sep w0 L) Q K (⟨some d, .makeSlice t x y, ty, pos, af, none⟩ :: rest) := by
  have hφ : ∀ w, Ψ.φ z (zeroOf P e).toList w := fun w => by rw [hzc]; exact hφ0 w
  unfold Sq
  intro a w hst
  obtain ⟨Bs, hl, hc⟩ := hst.cls
  have hst' : St N K (Cls w0 Bs (FctL L Bs)) a w := hst.cls' hc
  have key := Sq_makeC (P := P) (ops := ops) (Q := Q) (rest := rest) (ty := ty) (pos := pos) (af := af) (F := FctL L Bs) (k := Ψ.k) upC_fct hB hN hx hy h0 (fun g hg => by
    refine Sq_weaken (fun w' hw => ?_) (h (.slice (some ⟨g, 0, none⟩) n.toNat n.toNat))
    exact sep_cons hl hw ⟨n.toNat, rfl, ⟨_, by rw [List.length_replicate]; rfl, .inl rfl⟩, by rw [List.length_replicate]; exact Nat.le_refl _, by simp only [maxLen]; omega, by rw [Array.length_toList, size_madeCells], (fun h => by cases h), made_LS hz (hφ w')⟩)
  unfold Sq at key
  exact key a w hst'
theorem sep_put {w : World} {Bs : BL} {m : Nat} {b : Nat} {e : TypeId} {cs cs' : List Value} {o' : Osl} (hl : Bs.length = L.length) (hc : Cls w0 Bs (FctL L Bs) w) (hx : Bs[m]? = some (some b, e, cs)) (hav : avAll L e) (ho : ∀ w', SameBut e w w' → o'.at (some b, e, cs') w') : Sep w0 (L.set m o') (w.setRow b cs'.toArray) := by
  have hml : m < Bs.length := (List.getElem?_eq_some_iff.1 hx).1
  refine ⟨Bs.set m (some b, e, cs'), by simp [hl], hc.put hx cs' fun w' hs hf m' o x hm' hx' => ?_⟩
  by_cases em : m = m'
  · subst em
    rw [List.getElem?_set_self (by omega)] at hm' hx'
    injection hm' with hm'
    injection hx' with hx'
    subst hm' hx'
    exact ho w' hs
  · rw [List.getElem?_set_ne em] at hm' hx'
    exact Osl.at_st (hf m' o x hm' hx') (hav.get hm') hs
/-- A store into a local's block. -/
theorem Sq_storeRaw (m : Nat) {t e : TypeId} {k : Nat} {x y : Operand} {b o : Nat} {cs vs : List Value} {p : Pr} (hm : L[m]? = some (.raw e b cs)) (hav : avAll L e) (hsz : allocB P t k = true) (hy : kn K y = some (.inl (.pointer (some ⟨b, o, none⟩)))) (hx : kn K x = some p) (hk : vs.length = k)
    (hp : ∀ v w, p.ok v w → v.cells = vs.toArray ∧ ∀ u ∈ vs, u.oneCell' = true) (ho : o + k ≤ cs.length)
    (h : Sq P ops N (Sep w0 (L.set m (.raw e b (putL cs o vs)))) Q (dropR K) rest) : Sq P ops N (Sep w0 L) Q K (⟨none, .store t y x, ty, pos, af, none⟩ :: rest) :=
  Sq_storeY hsz hy fun a w hst => by
    obtain ⟨Bs, hl, hc⟩ := hst.cls
    have hml : m < Bs.length := by rw [hl]; exact (List.getElem?_eq_some_iff.1 hm).1
    have hbx := List.getElem?_eq_getElem hml
    have e1 : Bs[m] = (some b, e, cs) := hc.fct m _ _ hm hbx
    rw [e1] at hbx
    have h2 := hp _ _ (kn_val hst hx)
    exact ⟨cs, vs, Sep w0 (L.set m (.raw e b (putL cs o vs))), hc.get hbx, ho, h2.1, hk, h2.2, sep_put hl hc hbx hav fun w' _ => rfl, h⟩
theorem raw_v {v : Value} (h1 : v.oneCell' = true) : ∀ u w, Pr.ok (.inl v) u w → u.cells = ([v] : List Value).toArray ∧ ∀ x ∈ [v], x.oneCell' = true := fun u w h => by
  have h' : u = v := h
  subst h'
  refine ⟨?_, fun x hx => by simp at hx; subst hx; exact h1⟩
  cases u <;> first | rfl | simp [Value.oneCell'] at h1
/-- A cell of a local's block; the whole of it. -/
theorem W_loadRaw (m : Nat) (hM : Stepper P ops (Sep w0 L) N M) {x : Operand} {t e : TypeId} {b o : Nat} {cs : List Value} {v : Value} (hm : L[m]? = some (.raw e b cs)) (hB : scalarB P t = true) (hg : wantedK ops K g = some true) (hN : Nat.blt d N = true) (hx : kn K x = some (.inl (.pointer (some ⟨b, o, none⟩)))) (hcs : cs[o]? = some v)
    (h : M ((d, .inl v) :: K) rest) : M K (⟨some d, .load t x, ty, pos, af, g⟩ :: rest) :=
  W_loadO hM hB hg hN hx (fun w hc => (hc.raw hm).cell hcs) h
/-! ### Places of a slice of one's own -/
theorem W_lenS (m : Nat) (hM : Stepper P ops (Sep w0 L) N M) {α : Type} {e : TypeId} {Ψ : Phi α} {xs : List α} {v : Value} {x : Operand} {t : TypeId} (hm : L[m]? = some (.sl α e Ψ xs v)) (hB : sliceB P t = true) (hg : wantedK ops K g = some true) (hN : Nat.blt d N = true) (hx : kn K x = some (.inl v))
    (h : M ((d, .inl (.int .i64 xs.length)) :: K) rest) : M K (⟨some d, .call { callee := .builtin .len, args := #[x], argTypes := #[t] }, ty, pos, af, g⟩ :: rest) :=
  W_val hM hN hg (fun ρ w hc hk => by
    have hv : ρ x = v := hk x (by simp [Op.operands, Call.operands]) _ hx
    obtain ⟨A, c, cs, ⟨p, rfl, _⟩, _⟩ := hc.get hm
    unfold sliceB at hB
    cases hu : P.underlying t with
    | none => rw [hu] at hB; cases hB
    | some dd =>
      rw [hu] at hB
      cases dd <;> first | (simp at hB; done) | skip
      simp [execOp, resolve, invoke, builtin, Builtin.len_, run_underlying hu, hv, goInt]) h
theorem W_idxS (m : Nat) (hM : Stepper P ops (Sep w0 L) N M) {α : Type} {e : TypeId} {Ψ : Phi α} {xs : List α} {v : Value} {x y : Operand} {t : TypeId} {k : IntKind} {i : Int} (hm : L[m]? = some (.sl α e Ψ xs v)) (hB : elemB P t Ψ.k = true) (hg : wantedK ops K g = some true) (hN : Nat.blt d N = true)
    (hx : kn K x = some (.inl v)) (hy : kn K y = some (.inl (.int k i))) (hi : 0 ≤ i ∧ i < (xs.length : Int)) (h : M ((d, .inl (ptrAt v i Ψ.k 0)) :: K) rest) : M K (⟨some d, .indexAddr t x y, ty, pos, af, g⟩ :: rest) :=
  W_val hM hN hg (fun ρ w hc hk => by
    have hv : ρ x = v := hk x (by simp [Op.operands]) _ hx
    have hyv : ρ y = .int k i := hk y (by simp [Op.operands]) _ hy
    obtain ⟨b, c, cs, rfl, hn, _⟩ := hc.slc hm (by omega)
    obtain ⟨te, inf, hu, hinf, hsz⟩ := elemB_spec hB
    simp [execOp, hv, hyv, Instr.indexAt, asIntOf, run_underlying hu, hi, sizeOf_run hinf, hsz, Addr.add_lit, ptrAt, ptrOf]) h
theorem W_fieldS (m : Nat) (hM : Stepper P ops (Sep w0 L) N M) {α : Type} {e : TypeId} {Ψ : Phi α} {xs : List α} {v : Value} {x : Operand} {t : TypeId} {j off o ks : Nat} {i : Int} (hm : L[m]? = some (.sl α e Ψ xs v)) (hp : 0 < (xs.length : Int)) (hB : fieldB P t j off = true) (hg : wantedK ops K g = some true) (hN : Nat.blt d N = true)
    (hx : kn K x = some (.inl (ptrAt v i ks o))) (h : M ((d, .inl (ptrAt v i ks (o + off))) :: K) rest) : M K (⟨some d, .fieldAddr t x j, ty, pos, af, g⟩ :: rest) :=
  W_val hM hN hg (fun ρ w hc hk => by
    have hv : ρ x = ptrAt v i ks o := hk x (by simp [Op.operands]) _ hx
    obtain ⟨b, c, cs, rfl, hn, _⟩ := hc.slc hm hp
    simp only [ptrAt, ptrOf] at hv ⊢
    unfold fieldB at hB
    split at hB
    · rename_i fs hfs
      split at hB
      · rename_i f hf
        simp only [Bool.and_eq_true] at hB
        obtain ⟨h1, h2⟩ := hB
        have hoff := Nat.eq_of_beq_eq_true h1
        split at h2
        · rename_i inf hinf
          have hne : inf.size ≠ 0 := by
            intro e
            rw [e] at h2
            simp at h2
          simp [execOp, hv, Instr.fieldAt, run_underlying hfs, hf, Instr.sureAddr, fieldPlace, sizeOf_run hinf, hne, Addr.add_lit, hoff, Nat.add_assoc]
        · cases h2
      · cases hB
    · cases hB) h
theorem Sep.cell {w : World} {m : Nat} {α : Type} {e : TypeId} {Ψ : Phi α} {xs : List α} {v : Value} (h : Sep w0 L w) (hm : L[m]? = some (.sl α e Ψ xs v)) {i : Int} {off : Nat} {β : Type} {Θ : Phi β} {q : α → β} [Inhabited α] (hp : Proj Ψ off Θ q) (hi : 0 ≤ i ∧ i < (xs.length : Int)) :
    ∃ b c, ptrAt v i Ψ.k off = .pointer (some ⟨b, i.toNat * Ψ.k + off, none⟩) ∧ (∀ (j : Nat) u, c[j]? = some u → w.cell? ⟨b, i.toNat * Ψ.k + off + j, none⟩ = some u) ∧ Θ.φ (q (ix xs i)) c w := by
  obtain ⟨b, c, cs, rfl, hn, hl, hls, hb⟩ := h.slc hm (by omega)
  obtain ⟨c', hc, hφ⟩ := hp _ _ _ (hls i.toNat _ (ix_get hi.1 hi.2))
  refine ⟨b, c', rfl, fun j u hu => ?_, hφ⟩
  have := take_drop_get (hc j u hu)
  rw [Nat.add_assoc]
  exact hb.cell this
/-- A load from a place of a slice of one's own: a cell, a slice, a struct. -/
theorem W_loadS1 (m : Nat) (hM : Stepper P ops (Sep w0 L) N M) {α β : Type} [Inhabited α] {e : TypeId} {Ψ : Phi α} {Θ : Phi β} {q : α → β} {xs : List α} {v : Value} {x : Operand} {t : TypeId} {off ks : Nat} {i : Int} (mkv : β → Value) (hm : L[m]? = some (.sl α e Ψ xs v)) (hp : Proj Ψ off Θ q) (hmk : ∀ z cs w, Θ.φ z cs w → cs = [mkv z]) (hks : ks = Ψ.k) (hi : 0 ≤ i ∧ i < (xs.length : Int))
    (hB : scalarB P t = true) (hg : wantedK ops K g = some true) (hN : Nat.blt d N = true) (hx : kn K x = some (.inl (ptrAt v i ks off))) (h : M ((d, .inl (mkv (q (ix xs i)))) :: K) rest) : M K (⟨some d, .load t x, ty, pos, af, g⟩ :: rest) :=
  W_val hM hN hg (fun ρ w hc hk => by
    subst hks
    obtain ⟨b, c, h1, h2, h3⟩ := hc.cell hm hp hi
    have hv : ρ x = ptrAt v i Ψ.k off := hk x (by simp [Op.operands]) _ hx
    rw [h1] at hv
    have := hmk _ _ _ h3
    subst this
    exact run_load1 hB hv (by have := h2 0 _ rfl; simpa using this)) h
theorem proj_self {α : Type} {Ψ : Phi α} : Proj Ψ 0 Ψ (fun x => x) := fun x cs w h => ⟨cs, fun j u hu => by rw [Nat.zero_add]; exact hu, h⟩
theorem ls_set {α : Type} {Ψ : Phi α} {xs : List α} {cs cs' : List Value} {i : Nat} {z' : α} {w w' : World} (hi : i < xs.length) (hother : ∀ j, j ≠ i → j < xs.length → (cs'.drop (j * Ψ.k)).take Ψ.k = (cs.drop (j * Ψ.k)).take Ψ.k) (hmine : Ψ.φ z' ((cs'.drop (i * Ψ.k)).take Ψ.k) w') (hst : ∀ z c, Ψ.φ z c w → Ψ.φ z c w') (h : LS Ψ xs cs w) : LS Ψ (xs.set i z') cs' w' := fun j z hz => by
  have hjl : j < xs.length := by have := (List.getElem?_eq_some_iff.1 hz).1; rwa [List.length_set] at this
  by_cases e : i = j
  · subst e
    rw [List.getElem?_set_self hi] at hz
    injection hz with hz
    subst hz
    exact hmine
  · rw [List.getElem?_set_ne e] at hz
    rw [hother j (fun h => e h.symm) hjl]
    exact hst _ _ (h j z hz)
theorem put_sub {cs vs : List Value} {o off k n : Nat} (hk : vs.length = n) (hfit : o + k ≤ cs.length) (hoff : off + n ≤ k) : ((putL cs (o + off) vs).drop o).take k = putL ((cs.drop o).take k) off vs := by
  subst hk
  apply List.ext_getElem?
  intro j
  have hl : ((cs.drop o).take k).length = k := by simp; omega
  by_cases hj : j < k
  · rw [List.getElem?_take, if_pos hj, List.getElem?_drop]
    by_cases h1 : off ≤ j ∧ j < off + vs.length
    · obtain ⟨r, rfl⟩ : ∃ r, j = off + r := ⟨j - off, by omega⟩
      have hr := List.getElem?_eq_getElem (show r < vs.length by omega)
      rw [← Nat.add_assoc, putL_in (by omega) hr, putL_in (by omega) hr]
    · rw [putL_out (by omega) (by omega), putL_out (by omega) (by omega), List.getElem?_take, if_pos hj, List.getElem?_drop]
  · rw [List.getElem?_eq_none (by simp; omega), List.getElem?_eq_none (by rw [putL_length (by omega), hl]; omega)]
/-- A store into a place of a slice of one's own. -/
theorem Sq_storeS (m : Nat) {α : Type} [Inhabited α] {e : TypeId} {Ψ : Phi α} {xs : List α} {v : Value} {x y : Operand} {t : TypeId} {off ks n : Nat} {i : Int} {p : Pr} (z' : α) (hm : L[m]? = some (.sl α e Ψ xs v)) (hav : avAll L e) (hi : 0 ≤ i ∧ i < (xs.length : Int)) (hks : ks = Ψ.k) (hsz : allocB P t n = true) (hoff : off + n ≤ Ψ.k)
    (hy : kn K y = some (.inl (ptrAt v i ks off))) (hx : kn K x = some p) (hp : ∀ u w c, p.ok u w → Ψ.φ (ix xs i) c w → ∃ vs : List Value, u.cells = vs.toArray ∧ vs.length = n ∧ (∀ r ∈ vs, r.oneCell' = true) ∧ Ψ.φ z' (putL c off vs) w)
    (h : Sq P ops N (Sep w0 (L.set m (.sl α e Ψ (xs.set i.toNat z') v))) Q (dropR K) rest) : Sq P ops N (Sep w0 L) Q K (⟨none, .store t y x, ty, pos, af, none⟩ :: rest) := by
  subst hks
  unfold Sq
  intro a w hst
  obtain ⟨Bs, hl, hc⟩ := hst.cls
  have hml : m < Bs.length := by rw [hl]; exact (List.getElem?_eq_some_iff.1 hm).1
  have hbx := List.getElem?_eq_getElem hml
  obtain ⟨c, h1, ⟨p, h2, h2p⟩, h3, h4, h5, h6, h7⟩ := hc.fct m _ _ hm hbx
  generalize hX : Bs[m] = X at *
  obtain ⟨A, e', cs⟩ := X
  simp only at h1 h2 h2p h5 h6 h7
  subst h1 h2
  cases A with
  | none => have := h6 rfl; subst this; simp at hi; omega
  | some b =>
    obtain rfl := h2p.some_
    have hin : i.toNat < xs.length := by omega
    have hfit : i.toNat * Ψ.k + Ψ.k ≤ cs.length := by
      have h8 := mul_far (k := Ψ.k) hin
      have h9 := Nat.mul_le_mul_right Ψ.k h3
      omega
    have hst' : St N K (Cls w0 Bs (FctL L Bs)) a w := hst.cls' hc
    have hold := h7 i.toNat _ (ix_get hi.1 hi.2)
    have hstep : Sq P ops N (fun u => u = w) Q K (⟨none, .store t y x, ty, pos, af, none⟩ :: rest) := by
      refine Sq_storeY (e := e') (b := b) (o := i.toNat * Ψ.k + off) hsz hy fun a' w' hst'' => ?_
      have hw : w' = w := hst''.cls
      subst hw
      obtain ⟨vs, k1, k2, k3, k4⟩ := hp _ _ _ (kn_val hst'' hx) hold
      refine ⟨cs, vs, _, hc.get hbx, by omega, k1, k2, k3, sep_put hl hc hbx hav (fun w2 hs => ?_), h⟩
      refine ⟨c, rfl, ⟨_, by rw [List.length_set], .inl rfl⟩, by rw [List.length_set]; exact h3, h4, by rw [putL_length (by omega)]; exact h5, (fun h => by cases h), ?_⟩
      refine ls_set hin (fun j hj hjl => ?_) ?_ (fun z c h => Ψ.st _ (hav.get hm) _ _ _ _ hs h) h7
      · apply List.ext_getElem?
        intro r
        rw [List.getElem?_take, List.getElem?_take]
        split
        · rw [List.getElem?_drop, List.getElem?_drop]
          refine putL_out (by omega) ?_
          rcases Nat.lt_or_gt_of_ne hj with e | e <;> have := mul_far (k := Ψ.k) e <;> omega
        · rfl
      · rw [put_sub k2 hfit hoff]
        exact Ψ.st _ (hav.get hm) _ _ _ _ hs k4
    unfold Sq at hstep
    exact hstep a w (hst.cls' rfl)
/-- A local struct as a slice of one place. -/
theorem Sq_allocL {α : Type} (Ψ : Phi α) (z0 : α) {t : TypeId} (zs : List Value) (hzc : (zeroOf P t).toList = zs) (hφ : ∀ w, Ψ.φ z0 zs w) (hB : allocB P t Ψ.k = true) (hN : Nat.blt d N = true)
    (h : ∀ v', Sq P ops N (Sep w0 (.sl α t Ψ [z0] v' :: L)) Q ((d, .inl (ptrAt v' 0 Ψ.k 0)) :: K) rest) : Sq P ops N (Sep w0 L) Q K (⟨some d, .alloc t, ty, pos, af, none⟩ :: rest) := by
  unfold Sq
  intro a w hst
  refine wpList_plain rfl fun K' hK' => ?_
  unfold Oper.wp
  rw [run_alloc hB]
  simp only [Oper.upon]
  obtain ⟨Bs, hl, hc⟩ := hst.cls
  have hext := new_ext w (.cells (zeroOf P t) t)
  have hst' := hst.step (d := d) (R := .inl (.pointer (some ⟨w.heap.size, 0, none⟩))) (v := .pointer (some ⟨w.heap.size, 0, none⟩)) upC_sep hext (Nat.le_of_ble_eq_true hN) rfl
  have hn := hc.new upC_fct t (zeroOf P t).toList
  rw [Array.toArray_toList] at hn
  have hzl : (zeroOf P t).toList.length = Ψ.k := by rw [Array.length_toList]; exact zeroOf_size hB
  have hsq := h (.slice (some ⟨w.heap.size, 0, none⟩) 1 1)
  unfold Sq at hsq
  have e : ptrAt (.slice (some ⟨w.heap.size, 0, none⟩) 1 1) 0 Ψ.k 0 = .pointer (some ⟨w.heap.size, 0, none⟩) := by
    show Value.pointer (some ⟨w.heap.size, (0 : Int).toNat * Ψ.k + 0, none⟩) = _
    have : (0 : Int).toNat * Ψ.k + 0 = 0 := by simp
    rw [this]
  rw [e] at hsq
  refine hK' _ _ (hsq _ _ (hst'.cls' (sep_cons hl hn ⟨1, rfl, ⟨_, rfl, .inl rfl⟩, Nat.le_refl _, by simp [maxLen], by rw [hzl]; simp, (fun h => by cases h), fun j z hz => ?_⟩)))
  cases j with
  | zero =>
    simp only [List.getElem?_cons_zero, Option.some.injEq] at hz
    subst hz
    rw [Nat.zero_mul, List.drop_zero, hzc, List.take_of_length_le (by rw [← hzc, hzl]; exact Nat.le_refl _)]
    exact hφ _
  | succ j => simp at hz
theorem putL_all {c vs : List Value} (h : vs.length = c.length) : putL c 0 vs = vs := by
  unfold putL
  rw [List.take_zero, List.nil_append, Nat.zero_add, h, List.drop_length, List.append_nil]
theorem hp_A {α : Type} {Ψ : Phi α} {x z : α} : ∀ u w c, Pr.ok (.inr (uA Ψ z)) u w → Ψ.φ x c w → ∃ vs : List Value, u.cells = vs.toArray ∧ vs.length = Ψ.k ∧ (∀ r ∈ vs, r.oneCell' = true) ∧ Ψ.φ z (putL c 0 vs) w := fun u w c ⟨vs, hv, hφ⟩ hc => by
  subst hv
  have h1 := Ψ.len _ _ _ hφ
  exact ⟨vs, rfl, h1, Ψ.one _ _ _ hφ, by rw [putL_all (by rw [h1, Ψ.len _ _ _ hc])]; exact hφ⟩
theorem hp_1 {α : Type} {Ψ : Phi α} {x z : α} {v : Value} (hk : Ψ.k = 1) (h1 : v.oneCell' = true) (hφ : ∀ w, Ψ.φ z [v] w) : ∀ u w c, Pr.ok (.inl v) u w → Ψ.φ x c w → ∃ vs : List Value, u.cells = vs.toArray ∧ vs.length = 1 ∧ (∀ r ∈ vs, r.oneCell' = true) ∧ Ψ.φ z (putL c 0 vs) w := fun u w c hu hc => by
  obtain ⟨e1, e2⟩ := raw_v h1 u w hu
  exact ⟨[v], e1, rfl, e2, by rw [putL_all (by rw [Ψ.len _ _ _ hc, hk]; rfl)]; exact hφ w⟩
theorem isS_nil {α : Type} {e : Option TypeId} {Ψ : Phi α} {w : World} : IsS e Ψ [] (.slice none 0 0) w := ⟨none, 0, 0, rfl, rfl, Nat.le_refl _, Nat.zero_le _, fun i x h => by simp at h⟩
/-- The result is a local struct. -/
theorem RcellS (m : Nat) {fn : Func} {w00 : World} {α : Type} [Inhabited α] {Ψ : Phi α} {z z' : α} {v : Value} {t : Nat} {e ty : TypeId} (hres : fn.results = #[.cell t ty]) (hB : aggB P ty Ψ.k = true) (hE : ∀ w, Sep w0 L w → Ext w00 w) (ht : lookK K t = some (.inl (ptrAt v 0 Ψ.k 0))) (hm : L[m]? = some (.sl α e Ψ [z] v)) (hz : z = z') :
    Go_ N K (Sep w0 L) (bodyPost P fn (Post w00 (.inr (uA Ψ z'))) .ret) := .of fun a w hst => by
  subst hz
  obtain ⟨b, c, h1, h2, h3⟩ := hst.cls.cell hm proj_self (i := 0) (by simp)
  have h3' : Ψ.φ z c w := h3
  have hv : (a.tmps.getD t undef) = ptrAt v 0 Ψ.k 0 := hst.get ht
  rw [h1] at hv
  have hr := run_loadCells_list (P := P) w ⟨b, (0 : Int).toNat * Ψ.k + 0, none⟩ c (fun j v hj => by rw [Addr.add_lit]; exact h2 j v hj)
  rw [Ψ.len _ _ _ h3'] at hr
  refine ⟨hst.defers, .agg c.toArray, ?_, _, rfl, hE _ hst.cls, c, rfl, h3'⟩
  have hv' : (a.tmps[t]?).getD undef = .pointer (some ⟨b, (0 : Int).toNat * Ψ.k + 0, none⟩) := by simpa using hv
  have e0 : (0 : Int).toNat * Ψ.k + 0 = 0 := by simp
  rw [e0] at hr hv'
  simp [results, hres, hv', asAddr, loadVar, isAgg_true hB, aggB_size hB, hr]
end
attribute [irreducible] Sep ptrAt
end Go.Proofs.YtanlaggnhocjhaaGreat

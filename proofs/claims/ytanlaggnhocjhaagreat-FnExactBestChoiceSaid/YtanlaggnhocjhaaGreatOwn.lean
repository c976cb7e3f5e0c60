/-
  Memory that the call itself makes and writes: a slice by make, stores into it.
-/
import Derived.Test.YtanlaggnhocjhaaGreatMem
namespace Go.Proofs.YtanlaggnhocjhaaGreat
set_option linter.unusedSimpArgs false
set_option linter.unusedVariables false
open Go.RowKit

/-- Block g is just these cells. -/
def Blk (w : World) (g : Nat) (t : TypeId) (cs : List Value) : Prop := w.heap[g]? = some (.cells cs.toArray t (0, 0))
section
variable {w w' : World} {g : Nat} {t : TypeId} {cs : List Value}
theorem Blk.lt (h : Blk w g t cs) : g < w.heap.size := (Array.getElem?_eq_some_iff.1 h).1
theorem Blk.ext (h : Blk w g t cs) (he : Ext w w') : Blk w' g t cs := he.blk h
theorem Blk.cell (h : Blk w g t cs) {i : Nat} {u : Value} (hu : cs[i]? = some u) : w.cell? ⟨g, i, none⟩ = some u := by
  rw [cell_of_row w g i cs.toArray t (0, 0) h]
  simpa using hu
theorem Blk.new (w : World) (t : TypeId) (cs : List Value) : Blk (w.alloc (.cells cs.toArray t)) w.heap.size t cs := heap_alloc_new w _
theorem Blk.set_ (h : Blk w g t cs) (cs' : List Value) : Blk (w.setRow g cs'.toArray) g t cs' := setRow_heap w g cs.toArray cs'.toArray t (0, 0) h
theorem Blk.far {g' : Nat} (h : Blk w g t cs) (hne : g ≠ g') (cs' : Array Value) : Blk (w.setRow g' cs') g t cs := (setRow_other w g' g cs' hne).trans h
theorem Blk.same (h : Blk w g t cs) (cs' : List Value) : SameBut t w (w.setRow g cs'.toArray) := fun b o hb hne => by
  by_cases e : b = g
  · subst e
    unfold Blk at h
    rw [h] at hb
    injection hb with hb
    exact absurd hb.symm (hne _ _)
  · rw [setRow_other w g b _ e]
    exact hb
/-- A block of one's own that is known whole reads as a list. -/
theorem Blk.isS {α : Type} {Φ : Phi α} {xs : List α} {n : Nat} (h : Blk w g t cs) (hn : n = xs.length) (hm : n ≤ maxLen) (hall : ∀ i x, xs[i]? = some x → ∃ c, (∀ j u, c[j]? = some u → cs[i * Φ.k + j]? = some u) ∧ Φ.φ x c w) :
    IsS (some t) Φ xs (.slice (some ⟨g, 0, none⟩) n n) w := by
  refine ⟨_, _, _, rfl, hn, Nat.le_refl _, hm, fun i x hx => ?_⟩
  obtain ⟨c, hc, hφ⟩ := hall i x hx
  refine ⟨g, 0, c, rfl, fun j u hu => ?_, hφ, fun t' ht' => ⟨cs.toArray, (0, 0), by injection ht' with ht'; rw [← ht']; exact h⟩⟩
  rw [Nat.zero_add]
  exact h.cell (hc j u hu)
end

/-- cs with vs from place o on. -/
def putL (cs : List Value) (o : Nat) (vs : List Value) : List Value := cs.take o ++ vs ++ cs.drop (o + vs.length)
theorem putL_length {cs vs : List Value} {o : Nat} (h : o + vs.length ≤ cs.length) : (putL cs o vs).length = cs.length := by
  simp [putL]; omega
theorem putL_in {cs vs : List Value} {o j : Nat} {u : Value} (h : o + vs.length ≤ cs.length) (hj : vs[j]? = some u) : (putL cs o vs)[o + j]? = some u := by
  have hjl : j < vs.length := (List.getElem?_eq_some_iff.1 hj).1
  unfold putL
  rw [List.append_assoc, List.getElem?_append_right (by simp; omega)]
  rw [List.getElem?_append_left (by simp; omega)]
  simp only [List.length_take]
  rw [show o + j - min o cs.length = j by omega]
  exact hj
theorem putL_out {cs vs : List Value} {o j : Nat} (h : o + vs.length ≤ cs.length) (hj : j < o ∨ o + vs.length ≤ j) : (putL cs o vs)[j]? = cs[j]? := by
  unfold putL
  rcases hj with hj | hj
  · rw [List.append_assoc, List.getElem?_append_left (by simp; omega)]
    rw [List.getElem?_take]
    simp [hj]
  · rw [List.getElem?_append_right (by simp; omega)]
    simp only [List.length_append, List.length_take]
    rw [List.getElem?_drop]
    congr 1
    omega

def uAny : UR := ⟨fun _ _ => True, fun _ _ _ _ _ => trivial⟩
/-- Only what is known as a value is kept. -/
def dropR : List (Nat × Pr) → List (Nat × Pr)
  | [] => []
  | (t, .inl v) :: K => (t, .inl v) :: dropR K
  | (t, .inr _) :: K => (t, .inr uAny) :: dropR K
theorem dropR_spec : ∀ (K : List (Nat × Pr)) (t : Nat) (p : Pr), lookK (dropR K) t = some p → ∃ q, lookK K t = some q ∧ ((∃ v, p = .inl v ∧ q = .inl v) ∨ p = .inr uAny)
  | [], t, p, h => by cases h
  | (s, .inl v) :: K, t, p, h => by
    simp only [dropR] at h
    by_cases e : s = t
    · subst e
      rw [lookK_same] at h ⊢
      injection h with h
      exact ⟨_, rfl, .inl ⟨v, h.symm, rfl⟩⟩
    · rw [lookK_ne _ e] at h ⊢
      exact dropR_spec K t p h
  | (s, .inr U) :: K, t, p, h => by
    simp only [dropR] at h
    by_cases e : s = t
    · subst e
      rw [lookK_same] at h ⊢
      injection h with h
      exact ⟨_, rfl, .inr h.symm⟩
    · rw [lookK_ne _ e] at h ⊢
      exact dropR_spec K t p h

section
variable {P : Program} {ops : Array Oper} {C : World → Prop} {Q : Exit → Act → World → Prop} {N : Nat} {M : List (Nat × Pr) → List Oper → Prop} {K : List (Nat × Pr)} {rest : List Oper} {d : Nat} {op : Op} {ty : TypeId} {pos : String} {af : Array Edge} {g : Option (Nat × Bool)}

/-- What is known of the slots where the world has turned. -/
theorem St.turned {a : Act} {w w' : World} {C' : World → Prop} (h : St N K C a w) (hC : C' w') : St N (dropR K) C' a w' := by
  refine ⟨h.size, h.defers, fun t p hp => ?_, hC⟩
  obtain ⟨q, hq, hpq⟩ := dropR_spec K t p hp
  obtain ⟨v, hv, hk⟩ := h.slots t q hq
  rcases hpq with ⟨u, rfl, rfl⟩ | rfl
  · exact ⟨v, hv, hk⟩
  · exact ⟨v, hv, trivial⟩

/-- A slot's value is known, and of it a property: take the property. -/
theorem Sq_recall {l : List Oper} (t : Nat) {v : Value} {U : UR} (hU : ∀ w, C w → U.R v w) (ht : lookK K t = some (.inl v)) (h : Sq P ops N C Q ((t, .inr U) :: K) l) : Sq P ops N C Q K l := by
  unfold Sq at h ⊢
  intro a w hst
  refine h a w ⟨hst.size, hst.defers, fun s p hp => ?_, hst.cls⟩
  by_cases e : t = s
  · subst e
    rw [lookK_same] at hp
    injection hp with hp
    subst hp
    obtain ⟨u, hu, hk⟩ := hst.slots t _ ht
    have hk' : u = v := hk
    subst hk'
    exact ⟨u, hu, hU w hst.cls⟩
  · rw [lookK_ne _ e] at hp
    exact hst.slots s p hp

def makeB (P : Program) (t e : TypeId) (k : Nat) : Bool := (match P.underlying t with | some (.slice e') => Nat.beq e' e | _ => false) &&
  (match P.info? e with | some i => (match i.zero with | some z => Nat.beq z.cells.size k | none => false) && Nat.beq i.size k && Nat.ble i.bytes 4096 | none => false)
theorem Sq_make {w0 : World} {t e : TypeId} {k : Nat} {x y : Operand} {n : Int} (hC : UpC C) (hC0 : ∀ w, C w → Ext w0 w) (hB : makeB P t e k = true) (hN : Nat.blt d N = true)
    (hx : kn K x = some (.inl (.int .i64 n))) (hy : kn K y = some (.inl (.int .i64 n))) (h0 : 0 ≤ n ∧ n * 4096 ≤ 281474976710656)
    (h : ∀ g, w0.heap.size ≤ g → (∃ w, C w ∧ w.heap.size = g) → UpC (fun w => C w ∧ Blk w g e (madeCells (zeroOf P e) (n.toNat * k)).toList) → (∀ w, C w ∧ Blk w g e (madeCells (zeroOf P e) (n.toNat * k)).toList → Ext w0 w) → Sq P ops N (fun w => C w ∧ Blk w g e (madeCells (zeroOf P e) (n.toNat * k)).toList) Q ((d, .inl (.slice (some ⟨g, 0, none⟩) n.toNat n.toNat)) :: K) rest) :
    Sq P ops N C Q K (⟨some d, .makeSlice t x y, ty, pos, af, none⟩ :: rest) := by
  unfold Sq at h ⊢
  intro a w hst
  simp only [makeB, Bool.and_eq_true] at hB
  obtain ⟨h1, h2⟩ := hB
  split at h1
  case h_2 => cases h1
  rename_i e' hu
  have he := Nat.eq_of_beq_eq_true h1
  subst he
  split at h2
  case h_2 => cases h2
  rename_i i hi
  simp only [Bool.and_eq_true] at h2
  obtain ⟨⟨h3, h4⟩, h5⟩ := h2
  split at h3
  case h_2 => cases h3
  rename_i z hz
  have hk := Nat.eq_of_beq_eq_true h4
  have hby := Nat.le_of_ble_eq_true h5
  have hzz : zeroOf P e' = z.cells := by simp [zeroOf, hi, hz]
  have hev : ∀ s : Operand, kn K s = some (.inl (.int .i64 n)) → a.eval s = .int .i64 n := fun s hs => by
    cases s with
    | tmp t =>
      obtain ⟨v, hv, hk⟩ := hst.slots t _ hs
      have hk' : v = .int .i64 n := hk
      simp [Act.eval, hv, hk']
    | const v => simp only [kn, Option.some.injEq, Sum.inl.injEq] at hs; exact hs
    | global n => simp [kn] at hs
    | func f => simp [kn] at hs
  have hrun := run_make (P := P) w t e' i z hu hi hz .i64 .i64 n n h0.1 (Int.le_refl _) (by
    have : (i.bytes : Int) * n ≤ 4096 * n := Int.mul_le_mul_of_nonneg_right (by omega) h0.1
    omega) (by omega)
  rw [hk, ← hzz] at hrun
  refine wpList_plain rfl fun K' hK' => ?_
  unfold Oper.wp
  have hr2 : (execOp a.eval ⟨some d, .makeSlice t x y, ty, pos, af, none⟩).run P w = .ok (.value (.slice (some ⟨w.heap.size, 0, none⟩) n.toNat n.toNat)) (w.alloc (.cells (madeCells (zeroOf P e') (n.toNat * k)) e')) := by
    simp only [execOp, hev x hx, hev y hy, Sem.run_bind, hrun, Result.andThen_ok, Sem.run_pure]
  rw [hr2]
  simp only [Oper.upon]
  have hext := new_ext w (.cells (madeCells (zeroOf P e') (n.toNat * k)) e')
  have hst' := hst.step (d := d) (R := .inl (.slice (some ⟨w.heap.size, 0, none⟩) n.toNat n.toNat)) (v := .slice (some ⟨w.heap.size, 0, none⟩) n.toNat n.toNat) hC hext (Nat.le_of_ble_eq_true hN) rfl
  refine hK' _ _ (h w.heap.size (hC0 w hst.cls).size ⟨w, hst.cls, rfl⟩ (fun _ _ hc k => ⟨hC _ _ hc.1 k, hc.2.ext k⟩) (fun u hu => hC0 u hu.1) _ _ ⟨hst'.size, hst'.defers, hst'.slots, hst'.cls, ?_⟩)
  unfold Blk
  rw [Array.toArray_toList]
  exact heap_alloc_new w _

theorem W_indexO (hM : Stepper P ops C N M) {x y : Operand} {t : TypeId} {k : IntKind} {i : Int} {s n c : Nat} {b : Nat} (hB : elemB P t s = true) (hg : wantedK ops K g = some true) (hN : Nat.blt d N = true)
    (hx : kn K x = some (.inl (.slice (some ⟨b, 0, none⟩) n c))) (hy : kn K y = some (.inl (.int k i))) (hi : 0 ≤ i ∧ i < (n : Int))
    (h : M ((d, .inl (.pointer (some ⟨b, i.toNat * s, none⟩))) :: K) rest) : M K (⟨some d, .indexAddr t x y, ty, pos, af, g⟩ :: rest) :=
  W_val hM hN hg (fun ρ w _ hk => by
    have hv : ρ x = .slice (some ⟨b, 0, none⟩) n c := hk x (by simp [Op.operands]) _ hx
    have hyv : ρ y = .int k i := hk y (by simp [Op.operands]) _ hy
    obtain ⟨te, inf, hu, hinf, hsz⟩ := elemB_spec hB
    simp [execOp, hv, hyv, Instr.indexAt, asIntOf, run_underlying hu, hi, sizeOf_run hinf, hsz, Addr.add_lit]) h
theorem W_lenO (hM : Stepper P ops C N M) {x : Operand} {t : TypeId} {A : Option Addr} {n c : Nat} (hB : sliceB P t = true) (hg : wantedK ops K g = some true) (hN : Nat.blt d N = true) (hx : kn K x = some (.inl (.slice A n c)))
    (h : M ((d, .inl (.int .i64 n)) :: K) rest) : M K (⟨some d, .call { callee := .builtin .len, args := #[x], argTypes := #[t] }, ty, pos, af, g⟩ :: rest) :=
  W_val hM hN hg (fun ρ w _ hk => by
    have hv : ρ x = .slice A n c := hk x (by simp [Op.operands, Call.operands]) _ hx
    unfold sliceB at hB
    cases hu : P.underlying t with
    | none => rw [hu] at hB; cases hB
    | some dd =>
      rw [hu] at hB
      cases dd <;> first | (simp at hB; done) | skip
      simp [execOp, resolve, invoke, builtin, Builtin.len_, run_underlying hu, hv, goInt]) h
/-- A cell of a block of one's own. -/
theorem W_loadO (hM : Stepper P ops C N M) {x : Operand} {t : TypeId} {b o : Nat} {v : Value} (hB : scalarB P t = true) (hg : wantedK ops K g = some true) (hN : Nat.blt d N = true)
    (hx : kn K x = some (.inl (.pointer (some ⟨b, o, none⟩)))) (hcell : ∀ w, C w → w.cell? ⟨b, o, none⟩ = some v)
    (h : M ((d, .inl v) :: K) rest) : M K (⟨some d, .load t x, ty, pos, af, g⟩ :: rest) :=
  W_val hM hN hg (fun ρ w hc hk => run_load1 hB (hk x (by simp [Op.operands]) _ hx) (hcell w hc)) h

theorem kn_val {a : Act} {w : World} {s : Operand} {p : Pr} (hst : St N K C a w) (hs : kn K s = some p) : p.ok (a.eval s) w := by
  cases s with
  | tmp t =>
    obtain ⟨v, hv, hk⟩ := hst.slots t _ hs
    have : a.eval (.tmp t) = v := by simp [Act.eval, hv]
    rw [this]
    exact hk
  | const v => simp only [kn, Option.some.injEq] at hs; subst hs; rfl
  | global n => simp only [kn, Option.some.injEq] at hs; subst hs; rfl
  | func f => simp only [kn, Option.some.injEq] at hs; subst hs; rfl

/-- A store of k cells into a block of one's own. -/
theorem Sq_storeY {t e : TypeId} {k : Nat} {x y : Operand} {b o : Nat} (hsz : allocB P t k = true) (hy : kn K y = some (.inl (.pointer (some ⟨b, o, none⟩))))
    (hv : ∀ a w, St N K C a w → ∃ (cs vs : List Value) (C' : World → Prop), Blk w b e cs ∧ o + k ≤ cs.length ∧ (a.eval x).cells = vs.toArray ∧ vs.length = k ∧ (∀ u ∈ vs, u.oneCell' = true) ∧ C' (w.setRow b (putL cs o vs).toArray) ∧ Sq P ops N C' Q (dropR K) rest) :
    Sq P ops N C Q K (⟨none, .store t y x, ty, pos, af, none⟩ :: rest) := by
  unfold Sq
  intro a w hst
  have he : a.eval y = .pointer (some ⟨b, o, none⟩) := kn_val hst hy
  obtain ⟨cs, vs, C', hg, ho, hvs, hlen, hone, hC', h⟩ := hv a w hst
  unfold Sq at h
  have hst1 := run_storeCells_at P b o e vs 0 cs.toArray w hg (by simp; omega) hone
  have hsize : (sizeOf t).run P w = .ok k w := by
    have h1 := allocB_size hsz
    cases hi : P.info? t with
    | none => rw [hi] at h1; cases h1
    | some i => rw [hi] at h1; simp at h1; rw [sizeOf_run hi, h1]
  refine wpList_plain rfl fun K' hK' => ?_
  unfold Oper.wp
  have hr2 : (execOp a.eval ⟨none, .store t y x, ty, pos, af, none⟩).run P w = .ok .skip (w.setRow b (putL cs o vs).toArray) := by
    simp only [execOp, Instr.storeAt, he, Instr.sureAddr, storeVar, Sem.run_bind, Sem.run_pure, Result.andThen_ok, hsize, hvs]
    simp only [List.size_toArray, hlen, ne_eq, not_true, if_false]
    have e1 : (putL cs o vs) = (cs.toArray.toList.take (o + 0) ++ vs ++ cs.toArray.toList.drop (o + 0 + vs.length)) := by simp [putL]
    rw [e1]
    simp only [hst1, Result.andThen_ok]
  rw [hr2]
  simp only [Oper.upon]
  exact hK' _ _ (h _ _ (hst.turned hC'))
theorem Sq_storeX {C' : World → Prop} {t e : TypeId} {k : Nat} {x y : Operand} {b o : Nat} (hsz : allocB P t k = true) (hy : kn K y = some (.inl (.pointer (some ⟨b, o, none⟩))))
    (hv : ∀ a w, St N K C a w → ∃ cs vs : List Value, Blk w b e cs ∧ o + k ≤ cs.length ∧ (a.eval x).cells = vs.toArray ∧ vs.length = k ∧ (∀ u ∈ vs, u.oneCell' = true) ∧ C' (w.setRow b (putL cs o vs).toArray))
    (h : Sq P ops N C' Q (dropR K) rest) : Sq P ops N C Q K (⟨none, .store t y x, ty, pos, af, none⟩ :: rest) :=
  Sq_storeY hsz hy fun a w hst => let ⟨cs, vs, h1, h2, h3, h4, h5, h6⟩ := hv a w hst; ⟨cs, vs, C', h1, h2, h3, h4, h5, h6, h⟩
/-! ### A contract of a function that writes: its arguments by value -/
theorem CT_of1V {f : FuncId} {fn : Func} {c : Code} {p0 : Pr} {R : Pr} (hf : P.funcs[f]? = some fn) (hb : fn.body = some c) (hN : fn.ntmps = N) (hps : Nat.ble 1 N = true)
    (h : ∀ w v0, p0.ok v0 w → Hc P N [(0, .inl v0)] (Ext w) c (bodyPost P fn (Post w R))) : CT P f [p0] R := .of fun w vs hk => by
  match vs, hk with
  | [v0], ⟨h0, _⟩ =>
    have hle := Nat.le_of_ble_eq_true hps
    refine calls_of_wp hf hb ((h w v0 h0).out _ _ ⟨by simp; omega, rfl, fun t p hp => ?_, Ext.refl _⟩)
    by_cases e : 0 = t
    · subst e
      rw [lookK_same] at hp
      injection hp with hp
      subst hp
      exact ⟨v0, by rw [Array.getElem?_append_left (by simp)]; rfl, rfl⟩
    · rw [lookK_ne _ e] at hp
      cases hp

/-! ### A value of which a property is known -/
theorem W_moveR (hM : Stepper P ops C N M) {x : Operand} {v : Value} {U : UR} (hU : ∀ w, C w → U.R v w) (hg : wantedK ops K g = some true) (hN : Nat.blt d N = true) (hx : kn K x = some (.inl v)) (h : M ((d, .inr U) :: K) rest) : M K (⟨some d, .move x, ty, pos, af, g⟩ :: rest) :=
  W_det hM (.inr U) hN hg (fun ρ w hc hk => ⟨ρ x, rfl, by
    have hv : ρ x = v := hk x (by simp [Op.operands]) _ hx
    rw [hv]
    exact hU w hc⟩) h
theorem ix_get {α : Type} [Inhabited α] {xs : List α} {i : Int} (h0 : 0 ≤ i) (h1 : i < xs.length) : xs[i.toNat]? = some (ix xs i) := by
  unfold ix
  rw [List.getD_eq_getElem?_getD, List.getElem?_eq_getElem (by omega)]
  rfl

/-! ### The slice that is made place by place -/
def Made {α : Type} (w0 : World) (g : Nat) (te : TypeId) (Ψ : Phi α) (xs : List α) (i : Int) (w : World) : Prop :=
  Ext w0 w ∧ ∃ cs, Blk w g te cs ∧ cs.length = xs.length * Ψ.k ∧ ∀ (j : Nat) z, (j : Int) < i → xs[j]? = some z → Ψ.φ z ((cs.drop (j * Ψ.k)).take Ψ.k) w
theorem upC_made {α : Type} {w0 : World} {g : Nat} {te : TypeId} {Ψ : Phi α} {xs : List α} {i : Int} : UpC (Made w0 g te Ψ xs i) := fun w w' ⟨he, cs, hb, hl, hall⟩ h => ⟨he.trans h, cs, hb.ext h, hl, fun j z hj hz => Ψ.up _ _ _ _ h (hall j z hj hz)⟩
theorem made_new {α : Type} {w0 w : World} {g : Nat} {te : TypeId} {Ψ : Phi α} {xs : List α} {z : Array Value} {m : Nat} (h : Ext w0 w ∧ Blk w g te (madeCells z m).toList) (hm : m = xs.length * Ψ.k) : Made w0 g te Ψ xs 0 w :=
  ⟨h.1, _, h.2, by rw [Array.length_toList, size_madeCells, hm], fun j z hj => by omega⟩
theorem take_drop_get {cs : List Value} {o k j : Nat} {u : Value} (h : ((cs.drop o).take k)[j]? = some u) : cs[o + j]? = some u := by
  have hj : j < k := by
    have := (List.getElem?_eq_some_iff.1 h).1
    simp at this; omega
  rw [List.getElem?_take, if_pos hj, List.getElem?_drop] at h
  exact h
theorem putL_mine {cs vs : List Value} {o k : Nat} (hk : vs.length = k) (h : o + k ≤ cs.length) : ((putL cs o vs).drop o).take k = vs := by
  subst hk
  unfold putL
  have h1 : (cs.take o).length = o := by simp; omega
  have : (cs.take o ++ vs ++ cs.drop (o + vs.length)).drop o = vs ++ cs.drop (o + vs.length) := by
    rw [List.append_assoc]
    rw [List.drop_append, h1, Nat.sub_self, List.drop_of_length_le (by omega)]
    rfl
  rw [this]
  simp
theorem putL_other {cs vs : List Value} {o o' k : Nat} (hk : vs.length = k) (h : o + k ≤ cs.length) (h' : o' + k ≤ o ∨ o + k ≤ o') : ((putL cs o vs).drop o').take k = (cs.drop o').take k := by
  subst hk
  apply List.ext_getElem?
  intro j
  rw [List.getElem?_take, List.getElem?_take]
  split
  · rw [List.getElem?_drop, List.getElem?_drop]
    exact putL_out h (by omega)
  · rfl
theorem mul_far {i j k : Nat} (h : i < j) : i * k + k ≤ j * k := by
  have : (i + 1) * k ≤ j * k := Nat.mul_le_mul_right k h
  rw [Nat.add_mul, Nat.one_mul] at this
  exact this
theorem Sq_storeM {α : Type} {Ψ : Phi α} {xs : List α} {z : α} {w0 : World} {te t : TypeId} {x y : Operand} {b o : Nat} {i : Int} {p : Pr} (hsz : allocB P t Ψ.k = true) (hy : kn K y = some (.inl (.pointer (some ⟨b, o, none⟩))))
    (hx : kn K x = some p) (ho : o = i.toNat * Ψ.k) (hp : ∀ v w, p.ok v w → ∃ vs : List Value, v.cells = vs.toArray ∧ Ψ.φ z vs w) (hg : w0.heap.size ≤ b) (hav : Ψ.Av te) (hi : 0 ≤ i) (hz : xs[i.toNat]? = some z)
    (h : Sq P ops N (Made w0 b te Ψ xs (i + 1)) Q (dropR K) rest) : Sq P ops N (Made w0 b te Ψ xs i) Q K (⟨none, .store t y x, ty, pos, af, none⟩ :: rest) :=
  Sq_storeX hsz hy (fun a w hst => by
    obtain ⟨he, cs, hB, hl, hall⟩ := hst.cls
    obtain ⟨vs, hv, hφ⟩ := hp _ _ (kn_val hst hx)
    have hlt : i.toNat < xs.length := (List.getElem?_eq_some_iff.1 hz).1
    have hroom : o + Ψ.k ≤ cs.length := by rw [ho, hl]; exact mul_far hlt
    have hlen := Ψ.len _ _ _ hφ
    refine ⟨cs, vs, hB, hroom, hv, hlen, Ψ.one _ _ _ hφ, below_setRow he hg _, _, hB.set_ _, by rw [putL_length (by omega)]; exact hl, fun j z' hj hz' => ?_⟩
    have hsame := hB.same (putL cs o vs)
    by_cases e : j = i.toNat
    · subst e
      rw [hz] at hz'
      injection hz' with hz'
      subst hz'
      rw [← ho, putL_mine hlen hroom]
      exact Ψ.st te hav _ _ _ _ hsame hφ
    · rw [putL_other hlen hroom (by rw [ho]; rcases Nat.lt_or_gt_of_ne e with e | e <;> have := mul_far (k := Ψ.k) e <;> omega)]
      exact Ψ.st te hav _ _ _ _ hsame (hall j z' (by omega) hz')) h
theorem Made.isS {α : Type} {Ψ : Phi α} {xs : List α} {w0 w : World} {te : TypeId} {g n : Nat} {i : Int} (h : Made w0 g te Ψ xs i w) (hi : (xs.length : Int) ≤ i) (hn : n = xs.length) (hm : xs.length ≤ maxLen) : IsS (some te) Ψ xs (.slice (some ⟨g, 0, none⟩) n n) w := by
  obtain ⟨he, cs, hB, hl, hall⟩ := h
  refine hB.isS hn (by omega) fun j z hz => ⟨_, fun r u hu => take_drop_get hu, hall j z ?_ hz⟩
  have := (List.getElem?_eq_some_iff.1 hz).1
  omega
theorem elem_A {α : Type} {Ψ : Phi α} {z : α} : ∀ v w, Pr.ok (.inr (uA Ψ z)) v w → ∃ vs : List Value, v.cells = vs.toArray ∧ Ψ.φ z vs w := fun v w ⟨vs, hv, hφ⟩ => ⟨vs, by rw [hv]; rfl, hφ⟩
theorem elem_I {n : Int} : ∀ v w, Pr.ok (.inl (.int .i64 n)) v w → ∃ vs : List Value, v.cells = vs.toArray ∧ pI.φ n vs w := fun v w h => ⟨[v], by rw [show v = .int .i64 n from h]; rfl, by rw [show v = .int .i64 n from h]; rfl⟩
theorem elem_Str {n : ByteArray} : ∀ v w, Pr.ok (.inl (.string n)) v w → ∃ vs : List Value, v.cells = vs.toArray ∧ pStr.φ n vs w := fun v w h => ⟨[v], by rw [show v = .string n from h]; rfl, by rw [show v = .string n from h]; rfl⟩
theorem elem_S {α : Type} {e : Option TypeId} {Ψ : Phi α} {xs : List α} : ∀ v w, Pr.ok (.inr (uS e Ψ xs)) v w → ∃ vs : List Value, v.cells = vs.toArray ∧ (pS e Ψ).φ xs vs w := fun v w h => by
  have h' := h
  obtain ⟨A, n, c, hv, _⟩ := h
  exact ⟨[v], by rw [hv]; rfl, v, rfl, h'⟩
end
end Go.Proofs.YtanlaggnhocjhaaGreat

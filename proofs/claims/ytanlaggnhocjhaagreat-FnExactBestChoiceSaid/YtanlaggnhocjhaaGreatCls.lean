/-
  A function's own memory as a list of blocks, each with its content; what else is known of the world beside it.
-/
import Derived.Test.YtanlaggnhocjhaaGreatWrap
namespace Go.Proofs.YtanlaggnhocjhaaGreat
set_option linter.unusedSimpArgs false
set_option linter.unusedVariables false
open Go.RowKit

abbrev BL := List (Option Nat × TypeId × List Value)
/-- The block, if there is one; else there are no cells. -/
def BlkO (w : World) (x : Option Nat × TypeId × List Value) : Prop := match x.1 with
  | some g => Blk w g x.2.1 x.2.2
  | none => x.2.2 = []
theorem BlkO.ext {w w' : World} {x : Option Nat × TypeId × List Value} (h : BlkO w x) (he : Ext w w') : BlkO w' x := by
  obtain ⟨A, t, cs⟩ := x
  cases A with
  | none => exact h
  | some g => exact Blk.ext (h : Blk w g t cs) he
structure Cls (w0 : World) (Bs : BL) (F : World → Prop) (w : World) : Prop where
  ext : Ext w0 w
  nd : (Bs.filterMap fun x => x.1).Nodup
  lo : ∀ g ∈ Bs.filterMap (fun x => x.1), w0.heap.size ≤ g
  blk : ∀ x ∈ Bs, BlkO w x
  fct : F w
def StF (t : TypeId) (F : World → Prop) : Prop := ∀ w w', SameBut t w w' → F w → F w'
theorem upC_cls {w0 : World} {Bs : BL} {F : World → Prop} (hF : UpC F) : UpC (Cls w0 Bs F) := fun w w' h he => ⟨h.ext.trans he, h.nd, h.lo, fun x hx => (h.blk x hx).ext he, hF _ _ h.fct he⟩
theorem upC_true : UpC fun _ => True := fun _ _ _ _ => trivial
theorem upC_and {F G : World → Prop} (hF : UpC F) (hG : UpC G) : UpC fun w => F w ∧ G w := fun _ _ h he => ⟨hF _ _ h.1 he, hG _ _ h.2 he⟩
theorem upC_phi {α : Type} {Ψ : Phi α} {z : α} {vs : List Value} : UpC fun w => Ψ.φ z vs w := fun _ _ h he => Ψ.up _ _ _ _ he h
theorem stF_true {t : TypeId} : StF t fun _ => True := fun _ _ _ _ => trivial
theorem stF_and {t : TypeId} {F G : World → Prop} (hF : StF t F) (hG : StF t G) : StF t fun w => F w ∧ G w := fun _ _ h he => ⟨hF _ _ h he.1, hG _ _ h he.2⟩
theorem stF_phi {t : TypeId} {α : Type} {Ψ : Phi α} {z : α} {vs : List Value} (hav : Ψ.Av t) : StF t fun w => Ψ.φ z vs w := fun _ _ h he => Ψ.st t hav _ _ _ _ h he
theorem cls_ext {w0 : World} (w : World) (h : Ext w0 w) : Cls w0 [] (fun _ => True) w := ⟨h, List.nodup_nil, (fun _ h => by cases h), (fun _ h => by cases h), trivial⟩

theorem av_I {t : TypeId} : pI.Av t := trivial
theorem av_Str {t : TypeId} : pStr.Av t := trivial
theorem av_nil {α : Type} {t : TypeId} : (pNil (α := α)).Av t := trivial
theorem av_cat {α β : Type} {f : α → β} {Φ : Phi β} {Ψ : Phi α} {t : TypeId} (h1 : Φ.Av t) (h2 : Ψ.Av t) : (pCat f Φ Ψ).Av t := ⟨h1, h2⟩
theorem av_S {α : Type} {Φ : Phi α} {t t' : TypeId} (h1 : t' ≠ t) (h2 : Φ.Av t) : (pS (some t') Φ).Av t := ⟨t', rfl, h1, h2⟩

theorem zadd {cs vs : List Value} (h : ∀ (j : Nat) u, vs[j]? = some u → cs[j]? = some u) : ∀ (j : Nat) u, vs[j]? = some u → cs[0 + j]? = some u := fun j u hu => by rw [Nat.zero_add]; exact h j u hu
section
variable {P : Program} {ops : Array Oper} {Q : Exit → Act → World → Prop} {N : Nat} {M : List (Nat × Pr) → List Oper → Prop} {K : List (Nat × Pr)} {rest : List Oper} {d : Nat} {op : Op} {ty : TypeId} {pos : String} {af : Array Edge} {g : Option (Nat × Bool)}
  {w0 : World} {Bs : BL} {F : World → Prop}

theorem Cls.get {w : World} (h : Cls w0 Bs F w) {m : Nat} {g : Nat} {t : TypeId} {cs : List Value} (hm : Bs[m]? = some (some g, t, cs)) : Blk w g t cs := h.blk _ (List.mem_of_getElem? hm)
theorem Cls.fresh {w w' : World} (h : Cls w0 Bs F w) (hF : UpC F) (he : Ext w w') {g : Nat} {t : TypeId} {cs : List Value} (hg : w.heap.size ≤ g) (hB : Blk w' g t cs) : Cls w0 ((some g, t, cs) :: Bs) F w' := by
  have hk : ((some g, t, cs) :: Bs).filterMap (fun x => x.1) = g :: Bs.filterMap (fun x => x.1) := rfl
  refine ⟨h.ext.trans he, ?_, fun x hx => ?_, fun x hx => ?_, hF _ _ h.fct he⟩
  · rw [hk, List.nodup_cons]
    refine ⟨fun hm => ?_, h.nd⟩
    obtain ⟨y, hy, e⟩ := List.mem_filterMap.1 hm
    obtain ⟨A, t', cs'⟩ := y
    have e' : A = some g := e
    subst e'
    have := (h.blk _ hy : Blk w g t' cs').lt
    omega
  · rw [hk] at hx
    rcases List.mem_cons.1 hx with rfl | hx
    · exact Nat.le_trans h.ext.size hg
    · exact h.lo x hx
  · rcases List.mem_cons.1 hx with rfl | hx
    · exact hB
    · exact (h.blk x hx).ext he
theorem Cls.new {w : World} (h : Cls w0 Bs F w) (hF : UpC F) (t : TypeId) (cs : List Value) : Cls w0 ((some w.heap.size, t, cs) :: Bs) F (w.alloc (.cells cs.toArray t)) :=
  h.fresh hF (new_ext w _) (Nat.le_refl _) (Blk.new w t cs)
theorem Cls.drop {w : World} {x : Option Nat × TypeId × List Value} (h : Cls w0 (x :: Bs) F w) : Cls w0 Bs F w := by
  refine ⟨h.ext, ?_, fun g hg => h.lo g ?_, fun y hy => h.blk y (List.mem_cons_of_mem _ hy), h.fct⟩
  · exact (List.Sublist.nodup ((List.sublist_cons_self x Bs).filterMap _) h.nd)
  · exact ((List.sublist_cons_self x Bs).filterMap _).subset hg
theorem Cls.drop1 {w : World} {x y : Option Nat × TypeId × List Value} (h : Cls w0 (x :: y :: Bs) F w) : Cls w0 (x :: Bs) F w := by
  have hs : (x :: Bs).Sublist (x :: y :: Bs) := List.Sublist.cons_cons x (List.sublist_cons_self y Bs)
  refine ⟨h.ext, List.Sublist.nodup (hs.filterMap _) h.nd, fun g hg => h.lo g ((hs.filterMap _).subset hg), fun z hz => h.blk z (hs.subset hz), h.fct⟩
theorem Cls.fact {w : World} {F' : World → Prop} (h : Cls w0 Bs F w) (hF : F w → F' w) : Cls w0 Bs F' w := ⟨h.ext, h.nd, h.lo, h.blk, hF h.fct⟩
theorem Cls.none {w : World} (h : Cls w0 Bs F w) (t : TypeId) : Cls w0 ((none, t, []) :: Bs) F w :=
  ⟨h.ext, h.nd, h.lo, fun x hx => by
    rcases List.mem_cons.1 hx with rfl | hx
    · exact rfl
    · exact h.blk x hx, h.fct⟩
theorem filterMap_set {α β : Type} {f : α → Option β} {x : α} : ∀ {l : List α} {m : Nat} {y : α}, l[m]? = some y → f x = f y → (l.set m x).filterMap f = l.filterMap f
  | [], m, y, h, _ => by simp at h
  | a :: l, 0, y, h, hf => by
    simp at h
    subst h
    simp [List.filterMap_cons, hf]
  | a :: l, m + 1, y, h, hf => by
    simp only [List.set_cons_succ, List.filterMap_cons]
    rw [filterMap_set (l := l) (by simpa using h) hf]
theorem nodup_far {α : Type} {f : α → Option Nat} : ∀ {l : List α} {i j : Nat} {x y : α} {g : Nat}, (l.filterMap f).Nodup → l[i]? = some x → l[j]? = some y → f x = some g → f y = some g → i = j
  | [], i, j, x, y, g, _, h, _, _, _ => by simp at h
  | a :: l, 0, 0, x, y, g, _, _, _, _, _ => rfl
  | a :: l, 0, j + 1, x, y, g, hn, h1, h2, f1, f2 => by
    simp at h1 h2
    subst h1
    rw [List.filterMap_cons_some f1, List.nodup_cons] at hn
    exact absurd (List.mem_filterMap.2 ⟨y, List.mem_of_getElem? h2, f2⟩) hn.1
  | a :: l, i + 1, 0, x, y, g, hn, h1, h2, f1, f2 => by
    simp at h1 h2
    subst h2
    rw [List.filterMap_cons_some f2, List.nodup_cons] at hn
    exact absurd (List.mem_filterMap.2 ⟨x, List.mem_of_getElem? h1, f1⟩) hn.1
  | a :: l, i + 1, j + 1, x, y, g, hn, h1, h2, f1, f2 => by
    simp at h1 h2
    have : (l.filterMap f).Nodup := List.Sublist.nodup ((List.sublist_cons_self a l).filterMap _) hn
    rw [nodup_far this h1 h2 f1 f2]
theorem Cls.put {w : World} (h : Cls w0 Bs F w) {m : Nat} {b : Nat} {e : TypeId} {cs : List Value} (hm : Bs[m]? = some (some b, e, cs)) (cs' : List Value) {F' : World → Prop} (hF : ∀ w', SameBut e w w' → F w → F' w') : Cls w0 (Bs.set m (some b, e, cs')) F' (w.setRow b cs'.toArray) := by
  have hB : Blk w b e cs := h.get hm
  have hmem := List.mem_of_getElem? hm
  have hml : m < Bs.length := (List.getElem?_eq_some_iff.1 hm).1
  have hkeys : (Bs.set m (some b, e, cs')).filterMap (fun x => x.1) = Bs.filterMap (fun x => x.1) := filterMap_set hm rfl
  refine ⟨below_setRow h.ext (h.lo _ (List.mem_filterMap.2 ⟨_, hmem, rfl⟩)) _, by rw [hkeys]; exact h.nd, fun x hx => ?_, fun x hx => ?_, hF _ (hB.same cs') h.fct⟩
  · rw [hkeys] at hx
    exact h.lo x hx
  · obtain ⟨j, hj⟩ := List.mem_iff_getElem?.1 hx
    rw [List.getElem?_set] at hj
    split at hj
    · first | (rw [if_pos (by omega)] at hj) | skip
      injection hj with hj
      subst hj
      exact hB.set_ cs'
    · rename_i hne
      obtain ⟨A, t, c⟩ := x
      cases A with
      | none => exact h.blk _ (List.mem_of_getElem? hj)
      | some g => exact (h.get hj).far (fun e' => hne (nodup_far h.nd hm hj (by rw [e']) rfl)) _

theorem St.cls' {C C' : World → Prop} {a : Act} {w : World} (h : St N K C a w) (hC : C' w) : St N K C' a w := ⟨h.size, h.defers, h.slots, hC⟩

theorem Sq_allocC {t : TypeId} {n : Nat} (hF : UpC F) (hB : allocB P t n = true) (hN : Nat.blt d N = true)
    (h : ∀ g cs, cs.length = n → w0.heap.size ≤ g → Sq P ops N (Cls w0 ((some g, t, cs) :: Bs) F) Q ((d, .inl (.pointer (some ⟨g, 0, none⟩))) :: K) rest) :
    Sq P ops N (Cls w0 Bs F) Q K (⟨some d, .alloc t, ty, pos, af, none⟩ :: rest) := by
  unfold Sq at h ⊢
  intro a w hst
  refine wpList_plain rfl fun K' hK' => ?_
  unfold Oper.wp
  rw [run_alloc hB]
  simp only [Oper.upon]
  have hext := new_ext w (.cells (zeroOf P t) t)
  have hst' := hst.step (d := d) (R := .inl (.pointer (some ⟨w.heap.size, 0, none⟩))) (v := .pointer (some ⟨w.heap.size, 0, none⟩)) (upC_cls hF) hext (Nat.le_of_ble_eq_true hN) rfl
  refine hK' _ _ (h w.heap.size (zeroOf P t).toList (by rw [Array.length_toList]; exact zeroOf_size hB) hst.cls.ext.size _ _ (hst'.cls' ?_))
  have := hst.cls.new hF t (zeroOf P t).toList
  rwa [Array.toArray_toList] at this

theorem Sq_makeC {t e : TypeId} {k : Nat} {x y : Operand} {n : Int} (hF : UpC F) (hB : makeB P t e k = true) (hN : Nat.blt d N = true)
    (hx : kn K x = some (.inl (.int .i64 n))) (hy : kn K y = some (.inl (.int .i64 n))) (h0 : 0 ≤ n ∧ n * 4096 ≤ 281474976710656)
    (h : ∀ g, w0.heap.size ≤ g → Sq P ops N (Cls w0 ((some g, e, (madeCells (zeroOf P e) (n.toNat * k)).toList) :: Bs) F) Q ((d, .inl (.slice (some ⟨g, 0, none⟩) n.toNat n.toNat)) :: K) rest) :
    Sq P ops N (Cls w0 Bs F) Q K (⟨some d, .makeSlice t x y, ty, pos, af, none⟩ :: rest) := by
  unfold Sq at h ⊢
  intro a w hst
  have key : Sq P ops N (fun u => u = w ∨ Ext w u) Q K (⟨some d, .makeSlice t x y, ty, pos, af, none⟩ :: rest) :=
    Sq_make (w0 := w) (fun u u' hu he => by rcases hu with rfl | hu; exact .inr he; exact .inr (hu.trans he)) (fun u hu => by rcases hu with rfl | hu; exact Ext.refl _; exact hu) hB hN hx hy h0 (fun g hg _ _ _ => by
      unfold Sq
      intro a' u hst'
      have hu : Ext w u := by rcases hst'.cls.1 with h | h; rw [h]; exact Ext.refl _; exact h
      exact h g (Nat.le_trans hst.cls.ext.size hg) a' u (hst'.cls' (hst.cls.fresh hF hu hg hst'.cls.2)))
  unfold Sq at key
  exact key a w (hst.cls' (.inl rfl))

theorem Sq_boxC {x : Operand} {t : TypeId} {cs : List Value} (hF : UpC F) (hN : Nat.blt d N = true) (hx : kn K x = some (.inl (.agg cs.toArray)))
    (h : ∀ g, w0.heap.size ≤ g → Sq P ops N (Cls w0 ((some g, t, cs) :: Bs) F) Q ((d, .inl (.pointer (some ⟨g, 0, none⟩))) :: K) rest) :
    Sq P ops N (Cls w0 Bs F) Q K (⟨some d, .box t x, ty, pos, af, none⟩ :: rest) := by
  unfold Sq at h ⊢
  intro a w hst
  refine wpList_plain rfl fun K' hK' => ?_
  unfold Oper.wp
  have hv : a.eval x = .agg cs.toArray := kn_val hst hx
  have hr : ∀ ρ : Operand → Value, ρ x = .agg cs.toArray → (execOp ρ ⟨some d, .box t x, ty, pos, af, none⟩).run P w = .ok (.value (.pointer (some ⟨w.heap.size, 0, none⟩))) (w.alloc (.cells cs.toArray t)) := fun ρ hv => by
    simp [execOp, hv, go_sem, Value.cells]
  rw [hr _ hv]
  simp only [Oper.upon]
  have hext := new_ext w (.cells cs.toArray t)
  have hst' := hst.step (d := d) (R := .inl (.pointer (some ⟨w.heap.size, 0, none⟩))) (v := .pointer (some ⟨w.heap.size, 0, none⟩)) (upC_cls hF) hext (Nat.le_of_ble_eq_true hN) rfl
  exact hK' _ _ (h w.heap.size hst.cls.ext.size _ _ (hst'.cls' (hst.cls.new hF t cs)))
theorem W_fieldRC (m : Nat) (hM : Stepper P ops (Cls w0 Bs F) N M) {α β : Type} {Φ : Phi α} {Ψ : Phi β} {z : α} {q : α → β} {x : Operand} {t e : TypeId} {i off b : Nat} {cs : List Value} (hp : Proj Φ off Ψ q) (h0 : Φ.φ z cs w0) (hB : fieldB P t i off = true) (hg : wantedK ops K g = some true) (hN : Nat.blt d N = true)
    (hx : kn K x = some (.inl (.pointer (some ⟨b, 0, none⟩)))) (hm : Bs[m]? = some (some b, e, cs)) (h : M ((d, .inr (uP Ψ (q z))) :: K) rest) : M K (⟨some d, .fieldAddr t x i, ty, pos, af, g⟩ :: rest) :=
  W_det hM _ hN hg (fun ρ w hc hk => by
    have hv : ρ x = .pointer (some ⟨b, 0, none⟩) := hk x (by simp [Op.operands]) _ hx
    obtain ⟨c, hcc, hφ'⟩ := hp _ _ _ (Φ.up _ _ _ _ hc.ext h0)
    unfold fieldB at hB
    split at hB
    · rename_i fs hfs
      split at hB
      · rename_i f hf
        simp only [Bool.and_eq_true] at hB
        obtain ⟨h1, h2⟩ := hB
        have hoff := Nat.eq_of_beq_eq_true h1
        split at h2
        · rename_i inf hinf
          have hne : inf.size ≠ 0 := by
            intro e
            rw [e] at h2
            simp at h2
          refine ⟨.pointer (some ⟨b, 0 + off, none⟩), ?_, b, 0 + off, c, rfl, fun j u hu => ?_, hφ'⟩
          · simp [execOp, hv, Instr.fieldAt, run_underlying hfs, hf, Instr.sureAddr, fieldPlace, sizeOf_run hinf, hne, Addr.add_lit, hoff]
          · rw [Nat.zero_add]
            exact (hc.get hm).cell (hcc j u hu)
        · cases h2
      · cases hB
    · cases hB) h
theorem W_fieldC {C : World → Prop} (hM : Stepper P ops C N M) {x : Operand} {t : TypeId} {i b o off : Nat} (hB : fieldB P t i off = true) (hg : wantedK ops K g = some true) (hN : Nat.blt d N = true)
    (hx : kn K x = some (.inl (.pointer (some ⟨b, o, none⟩)))) (h : M ((d, .inl (.pointer (some ⟨b, o + off, none⟩))) :: K) rest) : M K (⟨some d, .fieldAddr t x i, ty, pos, af, g⟩ :: rest) :=
  W_val hM hN hg (fun ρ w _ hk => by
    have hv : ρ x = .pointer (some ⟨b, o, none⟩) := hk x (by simp [Op.operands]) _ hx
    unfold fieldB at hB
    split at hB
    · rename_i fs hfs
      split at hB
      · rename_i f hf
        simp only [Bool.and_eq_true] at hB
        obtain ⟨h1, h2⟩ := hB
        have hoff := Nat.eq_of_beq_eq_true h1
        split at h2
        · rename_i inf hinf
          have hne : inf.size ≠ 0 := by
            intro e
            rw [e] at h2
            simp at h2
          simp [execOp, hv, Instr.fieldAt, run_underlying hfs, hf, Instr.sureAddr, fieldPlace, sizeOf_run hinf, hne, Addr.add_lit, hoff]
        · cases h2
      · cases hB
    · cases hB) h

theorem W_loadAC (m : Nat) (hM : Stepper P ops (Cls w0 Bs F) N M) {x : Operand} {t e : TypeId} {b o k : Nat} {cs vs : List Value} (hB : aggB P t k = true) (hg : wantedK ops K g = some true) (hN : Nat.blt d N = true)
    (hx : kn K x = some (.inl (.pointer (some ⟨b, o, none⟩)))) (hm : Bs[m]? = some (some b, e, cs)) (hk : vs.length = k) (hcs : ∀ (j : Nat) u, vs[j]? = some u → cs[o + j]? = some u)
    (h : M ((d, .inl (.agg vs.toArray)) :: K) rest) : M K (⟨some d, .load t x, ty, pos, af, g⟩ :: rest) :=
  W_val hM hN hg (fun ρ w hc hkk => by
    have hv : ρ x = .pointer (some ⟨b, o, none⟩) := hkk x (by simp [Op.operands]) _ hx
    have hr := run_loadCells_list (P := P) w ⟨b, o, none⟩ vs (fun j v hj => by rw [Addr.add_lit]; exact (hc.get hm).cell (hcs j v hj))
    rw [hk] at hr
    simp [execOp, hv, Instr.loadAt, Instr.sureAddr, loadVar, isAgg_true hB, aggB_size hB, hr]) h

/-- A store of a datum into a block of one's own. -/
theorem Sq_storeE (m : Nat) {α : Type} {Ψ : Phi α} {z : α} {t e : TypeId} {x y : Operand} {b o : Nat} {cs : List Value} {p : Pr} (hsz : allocB P t Ψ.k = true) (hy : kn K y = some (.inl (.pointer (some ⟨b, o, none⟩))))
    (hx : kn K x = some p) (hp : ∀ v w, p.ok v w → ∃ vs : List Value, v.cells = vs.toArray ∧ Ψ.φ z vs w) (hm : Bs[m]? = some (some b, e, cs)) (ho : o + Ψ.k ≤ cs.length) (hav : Ψ.Av e) (hF : StF e F) (hF0 : UpC F)
    (h : ∀ vs, vs.length = Ψ.k → UpC (fun w => F w ∧ Ψ.φ z vs w) → Sq P ops N (Cls w0 (Bs.set m (some b, e, putL cs o vs)) (fun w => F w ∧ Ψ.φ z vs w)) Q (dropR K) rest) : Sq P ops N (Cls w0 Bs F) Q K (⟨none, .store t y x, ty, pos, af, none⟩ :: rest) :=
  Sq_storeY hsz hy fun a w hst => by
    obtain ⟨vs, hv, hφ⟩ := hp _ _ (kn_val hst hx)
    have hlen := Ψ.len _ _ _ hφ
    exact ⟨cs, vs, _, hst.cls.get hm, ho, hv, hlen, Ψ.one _ _ _ hφ, hst.cls.put hm _ (fun w' hs hf => ⟨hF _ _ hs hf, Ψ.st e hav _ _ _ _ hs hφ⟩), h vs hlen (upC_and hF0 upC_phi)⟩
/-- A store of known cells, as an aggregate. -/
theorem Sq_storeAg (m : Nat) {t e : TypeId} {x y : Operand} {b o k : Nat} {cs vs : List Value} (hsz : allocB P t k = true) (hy : kn K y = some (.inl (.pointer (some ⟨b, o, none⟩))))
    (hx : kn K x = some (.inl (.agg vs.toArray))) (hk : vs.length = k) (h1 : ∀ w, F w → ∀ u ∈ vs, u.oneCell' = true) (hm : Bs[m]? = some (some b, e, cs)) (ho : o + k ≤ cs.length) (hF : StF e F)
    (h : Sq P ops N (Cls w0 (Bs.set m (some b, e, putL cs o vs)) F) Q (dropR K) rest) : Sq P ops N (Cls w0 Bs F) Q K (⟨none, .store t y x, ty, pos, af, none⟩ :: rest) :=
  Sq_storeY hsz hy fun a w hst => by
    have hv : a.eval x = .agg vs.toArray := kn_val hst hx
    exact ⟨cs, vs, _, hst.cls.get hm, ho, by rw [hv]; rfl, hk, h1 w hst.cls.fct, hst.cls.put hm _ (fun w' hs hf => hF _ _ hs hf), h⟩
/-- The result is an aggregate in a block of one's own. -/
theorem RcellC (m : Nat) {fn : Func} {R : Pr} {t : Nat} {e ty : TypeId} {b k : Nat} {cs : List Value} (hres : fn.results = #[.cell t ty]) (hB : aggB P ty k = true) (ht : lookK K t = some (.inl (.pointer (some ⟨b, 0, none⟩)))) (hm : Bs[m]? = some (some b, e, cs)) (hk : cs.length = k)
    (hR : ∀ w, Cls w0 Bs F w → R.ok (.agg cs.toArray) w) : Go_ N K (Cls w0 Bs F) (bodyPost P fn (Post w0 R) .ret) := .of fun a w hst => by
  have hv : (a.tmps.getD t undef) = .pointer (some ⟨b, 0, none⟩) := hst.get ht
  have hr := run_loadCells_list (P := P) w ⟨b, 0, none⟩ cs (fun j v hj => by rw [Addr.add_lit, Nat.zero_add]; exact (hst.cls.get hm).cell hj)
  rw [hk] at hr
  refine ⟨hst.defers, .agg cs.toArray, ?_, _, rfl, hst.cls.ext, hR _ hst.cls⟩
  have hv' : (a.tmps[t]?).getD undef = .pointer (some ⟨b, 0, none⟩) := by simpa using hv
  simp [results, hres, hv', asAddr, loadVar, isAgg_true hB, aggB_size hB, hr]
theorem Sq_weaken {C C' : World → Prop} {l : List Oper} (hC : ∀ w, C w → C' w) (h : Sq P ops N C' Q K l) : Sq P ops N C Q K l := by
  unfold Sq at h ⊢
  exact fun a w hst => h a w (hst.cls' (hC _ hst.cls))
theorem H_weakenC {C C' : World → Prop} {c : Code} (hC : ∀ w, C w → C' w) (h : Hc P N K C' c Q) : Hc P N K C c Q := H_weaken (fun _ _ hst => hst.cls' (hC _ hst.cls)) h
end
end Go.Proofs.YtanlaggnhocjhaaGreat

/- Values in cells; slices of slices, each inner one by its value; local arrays. -/
import Derived.Test.YtanlaggnhocjhaaFun
namespace Go.Proofs.Ytanlaggnhocjhaa
set_option linter.unusedSimpArgs false
set_option linter.unusedVariables false
open Go.RowKit Go.ChangeShapes Go.WideShapes Go.ChangeAt Go.Deep
def pV : Phi Value := ⟨1, fun x cs _ => cs = [x] ∧ x.oneCell' = true, fun _ _ _ _ _ h => h, (fun _ _ _ h => by rw [h.1]; rfl), (fun _ _ _ h u hu => by rw [h.1] at hu; simp at hu; subst hu; exact h.2), fun _ => True, fun _ _ _ _ _ _ _ h => h⟩
theorem av_V {t : TypeId} : pV.Av t := trivial
theorem flat_V : Flat pV := fun _ _ _ _ h => h
theorem isS_vals {α : Type} [Inhabited α] {e e2 : Option TypeId} {Φ : Phi α} {xs : List (List α)} {v : Value} {w : World} (h : IsS e (pS e2 Φ) xs v w) :
    ∃ us : List Value, us.length = xs.length ∧ IsS e pV us v w ∧ ∀ i : Int, 0 ≤ i ∧ i < xs.length → IsS e2 Φ (ix xs i) (ix us i) w := by
  obtain ⟨A, n, c, rfl, rfl, hnc, hc, hall⟩ := h
  have key : ∀ i : Nat, ∃ u, ∀ x, xs[i]? = some x → ∃ b o, A = some ⟨b, o, none⟩ ∧ w.cell? ⟨b, o + i * 1, none⟩ = some u ∧ IsS e2 Φ x u w ∧ ∀ t, e = some t → ∃ c0 fr, w.heap[b]? = some (.cells c0 t fr) := fun i => by
    cases hx : xs[i]? with
    | none => exact ⟨undef, fun x h => by cases h⟩
    | some x =>
      obtain ⟨b, o, cs, hA, hcell, ⟨u, rfl, hu⟩, ht⟩ := hall i x hx
      exact ⟨u, fun x' hx' => by injection hx' with hx'; subst hx'; exact ⟨b, o, hA, hcell 0 u rfl, hu, ht⟩⟩
  obtain ⟨us, hus⟩ := Classical.axiomOfChoice key
  refine ⟨(List.range xs.length).map us, by simp, ⟨A, _, c, rfl, by simp, hnc, hc, fun i u hi => ?_⟩, fun i hi => ?_⟩
  · rw [List.getElem?_map] at hi
    have hil : i < xs.length := by
      rcases Nat.lt_or_ge i xs.length with h | h
      · exact h
      · rw [List.getElem?_eq_none (by simp; omega)] at hi; cases hi
    rw [List.getElem?_range hil, Option.map_some] at hi
    injection hi with hi
    subst hi
    obtain ⟨b, o, hA, h1, h2, ht⟩ := hus i _ (List.getElem?_eq_getElem hil)
    refine ⟨b, o, [us i], hA, fun j u hj => ?_, ⟨rfl, ?_⟩, ht⟩
    · cases j with
      | zero => simp only [List.getElem?_cons_zero, Option.some.injEq] at hj; subst hj; exact h1
      | succ j => simp at hj
    · obtain ⟨A', n', c', hv, _⟩ := h2
      rw [hv]; rfl
  · have h3 := ix_get (xs := xs) hi.1 hi.2
    obtain ⟨b, o, hA, h1, h2, ht⟩ := hus i.toNat _ h3
    have e : ix ((List.range xs.length).map us) i = us i.toNat := by
      unfold ix
      rw [List.getD_eq_getElem?_getD, List.getElem?_map, List.getElem?_range (by omega)]
      rfl
    rw [e]
    exact h2
theorem isS_le {α : Type} {e : Option TypeId} {Φ : Phi α} {xs : List α} {v : Value} {w : World} (h : IsS e Φ xs v w) : xs.length ≤ 9223372036854775807 := by
  obtain ⟨A, n, c, _, h1, h2, h3, _⟩ := h
  simp only [maxLen] at h3
  omega
theorem isS_le2 {α : Type} [Inhabited α] {e e2 : Option TypeId} {Φ : Phi α} {xs : List (List α)} {v : Value} {w : World} (h : IsS e (pS e2 Φ) xs v w) : ∀ i : Int, 0 ≤ i → i < xs.length → (ix xs i).length ≤ 9223372036854775807 := fun i h0 h1 => by
  obtain ⟨us, _, _, h2⟩ := isS_vals h
  exact isS_le (h2 i ⟨h0, h1⟩)
theorem sep_cons' {w0 w : World} {L : List Osl} {Bs : BL} {x : Option Nat × TypeId × List Value} {o : Osl} (hl : Bs.length = L.length) (h : Cls w0 (x :: Bs) (FctL L Bs) w) (ho : o.at x w) : ∃ Bs' : BL, Bs'.length = (o :: L).length ∧ Cls w0 Bs' (FctL (o :: L) Bs') w :=
  ⟨x :: Bs, by simp [hl], ⟨h.ext, h.nd, h.lo, h.blk, fun m o' x' h1 h2 => by
    cases m with
    | zero => simp at h1 h2; subst h1 h2; exact ho
    | succ m => exact h.fct m o' x' (by simpa using h1) (by simpa using h2)⟩⟩
/-- A slice that is nil. -/
theorem Sep.nil {w0 w : World} {L : List Osl} (α : Type) (e : TypeId) (Ψ : Phi α) (h : Sep w0 L w) : Sep w0 (.sl α e Ψ [] (.slice none 0 0) :: L) w := by
  unfold Sep at h ⊢
  obtain ⟨Bs, hl, hc⟩ := h
  exact sep_cons' hl (hc.none e) ⟨0, rfl, ⟨_, rfl, .inl rfl⟩, Nat.le_refl _, Nat.zero_le _, by simp, (fun _ => rfl), ls_nil⟩
section
variable {P : Program} {ops : Array Oper} {C : World → Prop} {N : Nat} {M : List (Nat × Pr) → List Oper → Prop} {K : List (Nat × Pr)} {rest : List Oper} {Q : Exit → Act → World → Prop} {d : Nat} {op : Op} {ty : TypeId} {pos : String} {af : Array Edge} {g : Option (Nat × Bool)} {w0 : World} {L : List Osl}
theorem W_loadV (hM : Stepper P ops C N M) {u : Value} {x : Operand} {t : TypeId} (hB : scalarB P t = true) (hg : wantedK ops K g = some true) (hN : Nat.blt d N = true) (hx : kn K x = some (.inr (uP pV u)))
    (h : M ((d, .inl u) :: K) rest) : M K (⟨some d, .load t x, ty, pos, af, g⟩ :: rest) :=
  W_val hM hN hg (fun ρ w _ hk => by
    obtain ⟨b, o, cs, hv, hcell, hφ⟩ := hk x (by simp [Op.operands]) _ hx
    obtain ⟨rfl, _⟩ := hφ
    exact run_load1 hB hv (by have := hcell 0 u rfl; simpa using this)) h
def arrB (P : Program) (t : TypeId) (n k : Nat) : Bool := Nat.blt 1 n && match P.underlying t with
  | some (.array m e) => Nat.beq m n && (match P.info? e with | some i => Nat.beq i.size k | none => false)
  | _ => false
theorem W_idxArr (hM : Stepper P ops C N M) {x y : Operand} {t : TypeId} {kd : IntKind} {i : Int} {n k b o : Nat} (hB : arrB P t n k = true) (hg : wantedK ops K g = some true) (hN : Nat.blt d N = true)
    (hx : kn K x = some (.inl (.pointer (some ⟨b, o, none⟩)))) (hy : kn K y = some (.inl (.int kd i))) (hi : 0 ≤ i ∧ i < (n : Int)) (h : M ((d, .inl (.pointer (some ⟨b, o + i.toNat * k, none⟩))) :: K) rest) : M K (⟨some d, .indexAddr t x y, ty, pos, af, g⟩ :: rest) :=
  W_val hM hN hg (fun ρ w _ hk => by
    have hv : ρ x = .pointer (some ⟨b, o, none⟩) := hk x (by simp [Op.operands]) _ hx
    have hyv : ρ y = .int kd i := hk y (by simp [Op.operands]) _ hy
    unfold arrB at hB
    rw [Bool.and_eq_true] at hB
    obtain ⟨hn, hB⟩ := hB
    have hn := Nat.le_of_ble_eq_true hn
    split at hB
    · rename_i m e hu
      split at hB
      · rename_i inf hinf
        simp only [Bool.and_eq_true] at hB
        obtain ⟨h1, h2⟩ := hB
        have h1 := Nat.eq_of_beq_eq_true h1
        have h2 := Nat.eq_of_beq_eq_true h2
        subst h1
        simp [execOp, hv, hyv, Instr.indexAt, asIntOf, run_underlying hu, hi, sizeOf_run hinf, h2, Instr.sureAddr, Addr.add_lit]
      · simp at hB
    · cases hB) h
theorem W_indexV (hM : Stepper P ops C N M) {x y : Operand} {t : TypeId} {k : IntKind} {i : Int} {s n c : Nat} {b o : Nat} (hB : elemB P t s = true) (hg : wantedK ops K g = some true) (hN : Nat.blt d N = true)
    (hx : kn K x = some (.inl (.slice (some ⟨b, o, none⟩) n c))) (hy : kn K y = some (.inl (.int k i))) (hi : 0 ≤ i ∧ i < (n : Int))
    (h : M ((d, .inl (.pointer (some ⟨b, o + i.toNat * s, none⟩))) :: K) rest) : M K (⟨some d, .indexAddr t x y, ty, pos, af, g⟩ :: rest) :=
  W_val hM hN hg (fun ρ w _ hk => by
    have hv : ρ x = .slice (some ⟨b, o, none⟩) n c := hk x (by simp [Op.operands]) _ hx
    have hyv : ρ y = .int k i := hk y (by simp [Op.operands]) _ hy
    obtain ⟨te, inf, hu, hinf, hsz⟩ := elemB_spec hB
    simp [execOp, hv, hyv, Instr.indexAt, asIntOf, run_underlying hu, hi, sizeOf_run hinf, hsz, Addr.add_lit]) h
theorem Sq_allocZ {t : TypeId} {n : Nat} (zs : List Value) (hzc : (zeroOf P t).toList = zs) (hB : allocB P t n = true) (hN : Nat.blt d N = true)
    (h : ∀ g, Sq P ops N (Sep w0 (.raw t g zs :: L)) Q ((d, .inl (.pointer (some ⟨g, 0, none⟩))) :: K) rest) : Sq P ops N (Sep w0 L) Q K (⟨some d, .alloc t, ty, pos, af, none⟩ :: rest) := by
  unfold Sq
  intro a w hst
  refine wpList_plain rfl fun K' hK' => ?_
  unfold Oper.wp
  rw [run_alloc hB]
  simp only [Oper.upon]
  obtain ⟨Bs, hl, hc⟩ : ∃ Bs : BL, Bs.length = L.length ∧ Cls w0 Bs (FctL L Bs) w := by
    have := hst.cls
    unfold Sep at this
    exact this
  have hext := new_ext w (.cells (zeroOf P t) t)
  have hst' := hst.step (d := d) (R := .inl (.pointer (some ⟨w.heap.size, 0, none⟩))) (v := .pointer (some ⟨w.heap.size, 0, none⟩)) upC_sep hext (Nat.le_of_ble_eq_true hN) rfl
  have hn := hc.new upC_fct t (zeroOf P t).toList
  rw [Array.toArray_toList] at hn
  have hsq := h w.heap.size
  unfold Sq at hsq
  refine hK' _ _ (hsq _ _ (hst'.cls' (sep_cons hl hn ?_)))
  rw [hzc]
  rfl
/-- A slice of one's own comes out of a region that draws. -/
theorem H_openO {α : Type} {e : TypeId} {Ψ : Phi α} {hfl : Flat Ψ} {ys : List α} {wr : World} {c : Code} (t : Nat) (ht : lookK K t = some (.inr (uO wr.heap.size (oF e Ψ hfl) ys))) (hC : ∀ w, C w → Ext wr w)
    (h : ∀ v, Hc P N ((t, .inl v) :: K) (Sep wr [.sl α e Ψ ys v]) c Q) : Hc P N K C c Q := .of fun a w hst => by
  obtain ⟨v, hv, S, hS, A, n, c', cs, ⟨p, h1, hp⟩, h2, h3, h4, h5, h6, h7, h8, h9⟩ := hst.slots t _ ht
  subst h1
  refine (h (.slice p n c')).out a w ⟨hst.size, hst.defers, fun s p' hp' => ?_, ?_⟩
  · by_cases e0 : t = s
    · subst e0
      rw [lookK_same] at hp'
      injection hp' with hp'
      subst hp'
      exact ⟨_, hv, rfl⟩
    · rw [lookK_ne _ e0] at hp'
      exact hst.slots s p' hp'
  · have hbase : Cls wr [] (FctL [] []) w := (cls_ext w (hC w hst.cls)).fact fun _ m o x h1 => by simp at h1
    cases A with
    | none =>
      have h6' : cs = [] := h6
      subst h6'
      exact sep_cons rfl (hbase.none e) ⟨c', rfl, ⟨_, by rw [h2], hp⟩, by omega, h4, h5, h8, h9⟩
    | some g =>
      have hcl : Cls wr [(some g, e, cs)] (FctL [] []) w := ⟨hbase.ext, by simp, fun b hb => by
        simp at hb
        subst hb
        exact (hS b (h7 b rfl)).1, fun x hx => by
        simp at hx
        subst hx
        exact h6, hbase.fct⟩
      exact sep_cons rfl hcl ⟨c', rfl, ⟨_, by rw [h2], hp⟩, by omega, h4, h5, h8, h9⟩
theorem CTG.ctT {P : Program} {f : FuncId} {ps : List Pr} {α : Type} {e : TypeId} {Ψ : Phi α} {hfl : Flat Ψ} {xs : List α} {p : Pr} (h : CTG P f ps (fun s => .inr (uT [.inr (uO s (oF e Ψ hfl) xs), p]))) : CT P f ps (.inr (uT [.inr (uS (some e) Ψ xs), p])) := h.ct fun s v w ⟨vs, hv, hk⟩ => by
  match vs, hk with
  | [a, b], ⟨⟨S, _, h1⟩, h2, _⟩ => exact ⟨[a, b], hv, OS.isS h1, h2, trivial⟩
def uF {α : Type} (e : TypeId) (Ψ : Phi α) (zs : List α) : UR := ⟨fun v w => ∃ p, v = .slice p zs.length zs.length ∧ IsS (some e) Ψ zs v w, fun _ _ _ he ⟨p, h1, h2⟩ => ⟨p, h1, h2.up he⟩⟩
/-- A slice by literal, to be read, full. -/
theorem W_buildF (hM : Stepper P ops C N M) (xs : List Operand) {α : Type} (Ψ : Phi α) (zs : List α) {ps : List Pr} {t e : TypeId} {len : Nat} {parts : Array (Nat × Operand)} (hk : Nat.blt 0 Ψ.k = true) (hB : appB P t e Ψ.k = true) (hparts : parts.toList = (xs.zipIdx 0).map fun x => (x.2, x.1)) (hlen : len = xs.length) (hsm : Nat.ble (len * Ψ.k) 16777216 = true)
    (hg : wantedK ops K g = some true) (hN : Nat.blt d N = true) (hargs : knAll K xs = some ps) (hels : ElsP Ψ ps zs)
    (h : M ((d, .inr (uF e Ψ zs)) :: K) rest) : M K (⟨some d, .buildSlice t len parts, ty, pos, af, g⟩ :: rest) :=
  W_gen hM _ hN hg (fun a w hC hkk => by
    have hall := knAll_ok (ρ := a.eval) (w := w) xs ps hargs fun x hx p hp => hkk x (build_ops hparts x hx) p hp
    obtain ⟨e1, e2, e3, e4⟩ := els_cells hels hall
    rw [List.length_map] at e1
    unfold gives
    have hsm' : len * Ψ.k ≤ 16777216 := Nat.le_of_ble_eq_true hsm
    rw [run_build (Nat.le_of_ble_eq_true hk) hB hparts hlen hsm' e2]
    have hkp : 0 < Ψ.k := Nat.le_of_ble_eq_true hk
    have hext := new_ext w (.cells ((xs.map a.eval).flatMap fun v => v.cells.toList).toArray e)
    have hzl : len = zs.length := by omega
    refine ⟨hext, _, by rw [hzl], (Blk.new w e _).isS (by omega) ?_ fun j y hy => ⟨_, fun r u hu => take_drop_get hu, Ψ.up _ _ _ _ hext (e3 j y hy)⟩⟩
    have : len * 1 ≤ len * Ψ.k := Nat.mul_le_mul_left _ hkp
    simp only [maxLen]
    omega) h
/-- append onto a slice that is full and only read: the result is one's own. -/
theorem Sq_appF {α : Type} {Ψ : Phi α} {xs zs : List α} {p : Option Addr} {n : Nat} {es : Option TypeId} {t e : TypeId} {x y : Operand} (hS : ∀ w, Sep w0 L w → IsS (some e) Ψ xs (.slice p n n) w) (hk : Nat.blt 0 Ψ.k = true) (hB : appB P t e Ψ.k = true) (hN : Nat.blt d N = true)
    (hx : kn K x = some (.inl (.slice p n n))) (hy : kn K y = some (.inr (uS es Ψ zs))) (hb : xs.length + zs.length ≤ 1073741824 ∧ 0 < zs.length)
    (h : ∀ v', Sq P ops N (Sep w0 (.sl α e Ψ (xs ++ zs) v' :: L)) Q ((d, .inl v') :: K) rest) :
    Sq P ops N (Sep w0 L) Q K (⟨some d, .call { callee := .builtin .append, args := #[x, y], argTypes := #[t, t] }, ty, pos, af, none⟩ :: rest) := by
  unfold Sq
  intro a w hst
  obtain ⟨i, z, hu, hi, hz, hzk, hik, hby⟩ := appB_spec hB
  have hv : a.eval x = .slice p n n := kn_val hst hx
  have hk' : 0 < Ψ.k := Nat.le_of_ble_eq_true hk
  obtain ⟨news, hsrc, hls⟩ := IsS.src (P := P) hk' hu (kn_val hst hy : IsS es Ψ zs (a.eval y) w)
  have hx0 := hS w hst.cls
  obtain ⟨_, _, _, hv0, hn0, _, _, _⟩ := hx0
  injection hv0 with _ hv1 _
  have hn : n = xs.length := by rw [hv1]; exact hn0
  obtain ⟨A, c, olds, hve, hol, hlo, hone, hcell⟩ := cells_list (P := P) hk' (hS w hst.cls)
  injection hve with hA _ hc
  subst hA
  obtain ⟨hsum, hz0⟩ := hb
  have hop : ∀ r w', (Builtin.append_ #[t, t] ty #[.slice p n n, a.eval y]).run P w = .ok r w' → (execOp a.eval ⟨some d, .call { callee := .builtin .append, args := #[x, y], argTypes := #[t, t] }, ty, pos, af, none⟩).run P w = .ok (.value r) w' := fun r w' hr => by
    simp [execOp, resolve, invoke, builtin, hv, hr]
  refine wpList_plain rfl fun K' hK' => ?_
  unfold Oper.wp
  have hold : (Builtin.firstCells i.size n (.slice p n n)).run P w.drew = .ok olds.toArray w.drew := by
    by_cases e0 : xs = []
    · subst e0
      have hnil : olds = [] := List.length_eq_zero_iff.1 (by simpa using hol)
      subst hnil
      obtain rfl : n = 0 := by simpa using hn
      cases p with
      | none => exact run_firstCells_none w.drew i.size 0 0 0
      | some a => exact run_firstCells_some w.drew i.size 0 a 0 0 [] (by simp) (fun j v hj => by simp at hj)
    · obtain ⟨ad, rfl, hc2⟩ := hcell e0
      exact run_firstCells_some w.drew i.size n ad n n _ (by rw [hik, hol, hn]) fun j v hj => by simpa using hc2 j v hj
  have hr := hop _ _ (run_append_grow_src (P := P) w t t ty e i z hu hi hz p n n olds hold (a.eval y) zs.length news (by rw [hik]; exact hsrc) (by omega) (by omega) (growslice_fits (by omega) (by
    have : (n + zs.length) * i.bytes ≤ 1073741824 * 4096 := Nat.mul_le_mul (by omega) hby
    omega)))
  rw [hr]
  simp only [Oper.upon]
  obtain ⟨c', hc'⟩ : ∃ c', c' = grownCap w (n + zs.length) n e := ⟨_, rfl⟩
  have hge := grownCap_ge w (n + zs.length) n e
  have hcm : grownCap w (n + zs.length) n e ≤ maxLen := grownCap_le_maxLen w (n + zs.length) n e (by simp only [maxLen]; omega)
  rw [← hc'] at hge hcm ⊢
  obtain ⟨cs', hcs'⟩ : ∃ cs' : List Value, cs' = olds ++ news ++ (Builtin.zeroCells z.cells (c' - (n + zs.length))).toList := ⟨_, rfl⟩
  have hrow : ((olds ++ news).toArray ++ Builtin.zeroCells z.cells (c' - (n + zs.length))) = cs'.toArray := by
    rw [hcs']
    apply Array.ext'
    simp [List.append_assoc]
  rw [hrow]
  have hol2 : olds.length = n * Ψ.k := by rw [hol, hn]
  have hnl : news.length = zs.length * Ψ.k := hsrc.newsLen
  have hext : Ext w (w.drew.alloc (.cells cs'.toArray e)) := (Ext.refl w).drew.alloc _
  have hBn : Blk (w.drew.alloc (.cells cs'.toArray e)) w.heap.size e cs' := heap_alloc_new w.drew _
  obtain ⟨Bs, hl, hcl⟩ : ∃ Bs : BL, Bs.length = L.length ∧ Cls w0 Bs (FctL L Bs) w := by
    have := hst.cls
    unfold Sep at this
    exact this
  have hz' : (Builtin.zeroCells z.cells (c' - (n + zs.length))).toList.length = (c' - (n + zs.length)) * Ψ.k := by rw [Array.length_toList, size_zeroCells, hzk]
  have hsq := h (.slice (some ⟨w.heap.size, 0, none⟩) (n + zs.length) c')
  unfold Sq at hsq
  have hst1 : St N K (fun _ => True) a w := hst.cls' trivial
  have hst2 := hst1.step (d := d) (R := .inl (.slice (some ⟨w.heap.size, 0, none⟩) (n + zs.length) c')) (v := .slice (some ⟨w.heap.size, 0, none⟩) (n + zs.length) c') (fun _ _ _ _ => trivial) hext (Nat.le_of_ble_eq_true hN) rfl
  refine hK' _ _ (hsq _ _ (hst2.cls' ?_))
  refine sep_cons hl (hcl.fresh upC_fct hext (Nat.le_refl _) hBn) ⟨c', rfl, ⟨_, by rw [List.length_append, hn]; rfl, .inl rfl⟩, by rw [List.length_append, ← hn]; exact hge, hcm, ?_, (fun h => by cases h), ?_⟩
  · show cs'.length = c' * Ψ.k
    rw [hcs', List.length_append, List.length_append, hol2, hnl, hz', ← Nat.add_mul, ← Nat.add_mul]
    congr 1
    omega
  · show LS Ψ (xs ++ zs) cs' _
    refine ls_app (cs := olds) (news := news) hn rfl (by rw [hol2]; exact Nat.le_refl _) (upC_ls _ _ hlo hext) (upC_ls _ _ hls hext) ?_
    rw [hcs', List.take_append_of_le_length (by rw [List.length_append, hol2, hnl, ← Nat.add_mul]; exact Nat.le_refl _), List.take_of_length_le (by rw [List.length_append, hol2, hnl, ← Nat.add_mul]; exact Nat.le_refl _), List.take_of_length_le (by rw [hol2]; exact Nat.le_refl _)]
end
end Go.Proofs.Ytanlaggnhocjhaa

/- A result that is built in a box of one's own: rules for its blocks and its end. -/
import Derived.Test.YtanlaggnhocjhaaRwz
import Derived.Test.YtanlaggnhocjhaaRunF0
import Derived.Test.YtanlaggnhocjhaaIns
namespace Go.Proofs.Ytanlaggnhocjhaa
set_option linter.unusedSimpArgs false
set_option linter.unusedVariables false
open Go.RowKit Go.ChangeShapes Go.WideShapes Go.ChangeAt Go.Deep
theorem set_fillK {α : Type} {xs : List α} {d z : α} {n i : Nat} (h : xs.length = i) (hi : i < n) : (xs ++ List.replicate (n - i) d).set i z = (xs ++ [z]) ++ List.replicate (n - (i + 1)) d := by
  subst h
  rw [show n - xs.length = (n - (xs.length + 1)) + 1 by omega, List.replicate_succ, List.set_append_right _ _ (Nat.le_refl _), Nat.sub_self, List.set_cons_zero]
  simp
theorem set_fill0 {α : Type} {xs : List α} {d : α} {n i : Nat} (h : xs.length = i) (hi : i < n) : (xs ++ List.replicate (n - i) d).set i d = xs ++ List.replicate (n - i) d := by
  rw [set_fillK h hi, List.append_assoc]
  congr 1
  rw [show n - i = (n - (i + 1)) + 1 by omega, List.replicate_succ]
  rfl
theorem ix_setV {α : Type} [Inhabited α] {xs : List α} {i : Nat} {z : α} (hi : i < xs.length) : ix (xs.set i z) (i : Int) = z := by simp [ix, hi]
theorem Sep.low {w q w' : World} {L : List Osl} (hE : Ext w q) (h : Sep q L w') : Sep w L w' := by
  unfold Sep at h ⊢
  obtain ⟨Bs, hl, hc⟩ := h
  exact ⟨Bs, hl, hE.trans hc.ext, hc.nd, fun g hg => Nat.le_trans hE.size (hc.lo g hg), hc.blk, hc.fct⟩
section
variable {P : Program} {ops : Array Oper} {C : World → Prop} {Q : Exit → Act → World → Prop} {N : Nat} {M : List (Nat × Pr) → List Oper → Prop} {K : List (Nat × Pr)} {rest : List Oper} {d : Nat} {op : Op} {ty : TypeId} {pos : String} {af : Array Edge} {g : Option (Nat × Bool)} {w0 : World} {L : List Osl}
/-- A block of a type, as an operation that only makes memory. -/
theorem W_allocN (hM : Stepper P ops C N M) {t : TypeId} {n s : Nat} (nw : Nw) (hB : allocB P t n = true) (hs : ∀ w, C w → s ≤ w.heap.size) (hnw : nw.e = t ∧ nw.cs = (zeroOf P t).toList ∧ nw.val = fun g => .pointer (some ⟨g, 0, none⟩)) (hg : wantedK ops K g = some true) (hN : Nat.blt d N = true)
    (h : M ((d, .inr (uNw s nw)) :: K) rest) : M K (⟨some d, .alloc t, ty, pos, af, g⟩ :: rest) :=
  W_gen hM _ hN hg (fun a w hC _ => by
    have hr : (execOp a.eval ⟨some d, .alloc t, ty, pos, af, g⟩).run P w = .ok (.value (.pointer (some ⟨w.heap.size, 0, none⟩))) (w.alloc (.cells (zeroOf P t) t)) := by
      have := run_alloc (P := P) (ρ := a.eval) (w := w) (d := d) (ty := ty) (pos := pos) (af := af) (g := g) hB
      exact this
    unfold gives
    rw [hr]
    obtain ⟨n1, n2, n3⟩ := hnw
    refine ⟨new_ext w _, w.heap.size, by rw [n3], hs w hC, ?_⟩
    rw [n1, n2]
    unfold Blk
    rw [Array.toArray_toList]
    exact heap_alloc_new w _) h
/-- What a slice of one's own is told by is a slice. -/
theorem Sq_slV (m : Nat) {α : Type} {e : TypeId} {Ψ : Phi α} {xs : List α} {v : Value} {l : List Oper} (hm : L[m]? = some (.sl α e Ψ xs v)) (h : v.oneCell' = true → Sq P ops N (Sep w0 L) Q K l) : Sq P ops N (Sep w0 L) Q K l := by
  unfold Sq at h ⊢
  intro a w hst
  obtain ⟨A, c, cs, ⟨p, h1, _⟩, _⟩ := hst.cls.get hm
  exact h (by rw [h1]; rfl) a w hst
theorem Sq_cls {l : List Oper} (h : ∀ w, C w → Sq P ops N C Q K l) : Sq P ops N C Q K l := by
  unfold Sq at h ⊢
  exact fun a w hst => h w hst.cls a w hst
/-- Values in a slice of one's own. -/
theorem W_loadSV (m : Nat) (hM : Stepper P ops (Sep w0 L) N M) {e : TypeId} {vs : List Value} {v : Value} {x : Operand} {t : TypeId} {i : Int} (hm : L[m]? = some (.sl Value e pV vs v)) (hi : 0 ≤ i ∧ i < (vs.length : Int))
    (hB : scalarB P t = true) (hg : wantedK ops K g = some true) (hN : Nat.blt d N = true) (hx : kn K x = some (.inl (ptrAt v i 1 0))) (h : M ((d, .inl (ix vs i)) :: K) rest) : M K (⟨some d, .load t x, ty, pos, af, g⟩ :: rest) :=
  W_loadS1 m hM (Θ := pV) (q := fun z => z) id hm proj_self mk_V rfl hi hB hg hN hx h
theorem W_loadSI (m : Nat) (hM : Stepper P ops (Sep w0 L) N M) {e : TypeId} {xs : List Int} {v : Value} {x : Operand} {t : TypeId} {i : Int} (hm : L[m]? = some (.sl Int e pI xs v)) (hi : 0 ≤ i ∧ i < (xs.length : Int))
    (hB : scalarB P t = true) (hg : wantedK ops K g = some true) (hN : Nat.blt d N = true) (hx : kn K x = some (.inl (ptrAt v i 1 0))) (h : M ((d, .inl (.int .i64 (ix xs i))) :: K) rest) : M K (⟨some d, .load t x, ty, pos, af, g⟩ :: rest) :=
  W_loadS1 m hM (Θ := pI) (q := fun z => z) (Value.int .i64) hm proj_self mk_I rfl hi hB hg hN hx h
theorem W_idxS1 (m : Nat) (hM : Stepper P ops (Sep w0 L) N M) {α : Type} {e : TypeId} {Ψ : Phi α} {xs : List α} {v : Value} {x y : Operand} {t : TypeId} {k : IntKind} {i : Int} (hm : L[m]? = some (.sl α e Ψ xs v)) (h1 : Ψ.k = 1) (hB : elemB P t 1 = true) (hg : wantedK ops K g = some true) (hN : Nat.blt d N = true)
    (hx : kn K x = some (.inl v)) (hy : kn K y = some (.inl (.int k i))) (hi : 0 ≤ i ∧ i < (xs.length : Int)) (h : M ((d, .inl (ptrAt v i 1 0)) :: K) rest) : M K (⟨some d, .indexAddr t x y, ty, pos, af, g⟩ :: rest) := by
  rw [← h1] at hB h
  exact W_idxS m hM hm hB hg hN hx hy hi h
theorem Sq_storeSI (m : Nat) {e : TypeId} {xs : List Int} {v : Value} {x y : Operand} {t : TypeId} {i z : Int} (hm : L[m]? = some (.sl Int e pI xs v)) (hav : avAll L e) (hi : 0 ≤ i ∧ i < (xs.length : Int)) (hsz : allocB P t 1 = true)
    (hy : kn K y = some (.inl (ptrAt v i 1 0))) (hx : kn K x = some (.inl (.int .i64 z)))
    (h : Sq P ops N (Sep w0 (L.set m (.sl Int e pI (xs.set i.toNat z) v))) Q (dropR K) rest) : Sq P ops N (Sep w0 L) Q K (⟨none, .store t y x, ty, pos, af, none⟩ :: rest) :=
  Sq_storeS m (n := 1) (off := 0) z hm hav hi rfl hsz (Nat.le_refl _) hy hx (hp_1 rfl rfl fun w => rfl) h
/-- A place of a slice of values gets another one. -/
theorem Sq_storeSV (m : Nat) {e : TypeId} {xs : List Value} {v u : Value} {x y : Operand} {t : TypeId} {i : Int} (hm : L[m]? = some (.sl Value e pV xs v)) (hav : avAll L e) (hi : 0 ≤ i ∧ i < (xs.length : Int)) (hsz : allocB P t 1 = true) (hu : u.oneCell' = true)
    (hy : kn K y = some (.inl (ptrAt v i 1 0))) (hx : kn K x = some (.inl u))
    (h : Sq P ops N (Sep w0 (L.set m (.sl Value e pV (xs.set i.toNat u) v))) Q (dropR K) rest) : Sq P ops N (Sep w0 L) Q K (⟨none, .store t y x, ty, pos, af, none⟩ :: rest) :=
  Sq_storeS m (n := 1) (off := 0) u hm hav hi rfl hsz (Nat.le_refl _) hy hx (hp_1 rfl hu fun w => ⟨rfl, hu⟩) h
theorem H_pinR (id : Nat) {l : Array Oper} {b : Bool} (h : ∀ wr, C wr → Hc P N K (Ext wr) (.region id l b) Q) : Hc P N K C (.region id l b) Q := H_pin h
theorem H_subR (id : Nat) {K' : List (Nat × Pr)} {C' : World → Prop} {l : Array Oper} {b : Bool} (hK : KSub K C K') (hC : ∀ w, C w → C' w) (h : Hc P N K' C' (.region id l b) Q) : Hc P N K C (.region id l b) Q := H_sub hK hC h
/-- The end: the result is in a cell of one's own. -/
theorem RcellX (m : Nat) {fn : Func} {σ : Type} {C' : σ → World → Prop} {R : σ → Pr} {t : Nat} {e ty : TypeId} {b k : Nat} {cs : List Value} (hres : fn.results = #[.cell t ty]) (hB : aggB P ty k = true) (ht : lookK K t = some (.inl (.pointer (some ⟨b, 0, none⟩)))) (hm : L[m]? = some (.raw e b cs)) (hk : cs.length = k)
    (hR : ∀ w, Sep w0 L w → ∃ y, C' y w ∧ (R y).ok (.agg cs.toArray) w) : Go_ N K (Sep w0 L) (bodyPost P fn (PostX C' R) .ret) := .of fun a w hst => by
  have hv : (a.tmps.getD t undef) = .pointer (some ⟨b, 0, none⟩) := hst.get ht
  have hr := run_loadCells_list (P := P) w ⟨b, 0, none⟩ cs (fun j v hj => by rw [Addr.add_lit, Nat.zero_add]; exact (hst.cls.raw hm).cell hj)
  rw [hk] at hr
  refine ⟨hst.defers, .agg cs.toArray, ?_, _, rfl, hR _ hst.cls⟩
  have hv' : (a.tmps[t]?).getD undef = .pointer (some ⟨b, 0, none⟩) := by simpa using hv
  simp [results, hres, hv', asAddr, loadVar, isAgg_true hB, aggB_size hB, hr]
end
/-- A block that the base has, as one's own of an earlier base. -/
theorem Sep.base {w q w' : World} {L : List Osl} {e : TypeId} {g : Nat} {cs : List Value} (hE : Ext w q) (hb : Blk q g e cs) (hlo : w.heap.size ≤ g) (h : Sep q L w') : Sep w (.raw e g cs :: L) w' := by
  unfold Sep at h ⊢
  obtain ⟨Bs, hl, hc⟩ := h
  refine ⟨(some g, e, cs) :: Bs, by simp [hl], hE.trans hc.ext, ?_, fun x hx => ?_, fun x hx => ?_, fun m o x hm hx => ?_⟩
  · show (g :: Bs.filterMap fun x => x.1).Nodup
    refine List.nodup_cons.2 ⟨fun h => ?_, hc.nd⟩
    have := hc.lo g h
    have := hb.lt
    omega
  · have hx' : x ∈ g :: Bs.filterMap fun x => x.1 := hx
    rcases List.mem_cons.1 hx' with rfl | h
    · exact hlo
    · exact Nat.le_trans hE.size (hc.lo x h)
  · rcases List.mem_cons.1 hx with rfl | h
    · exact hb.ext hc.ext
    · exact hc.blk x h
  · cases m with
    | zero => simp at hm hx; subst hm hx; rfl
    | succ m => exact hc.fct m o x (by simpa using hm) (by simpa using hx)
/-- A contract of a world, as one of what is read. -/
theorem CTX_ct {P : Program} {f : FuncId} {ps : List Pr} {σ : Type} {C' : World → σ → World → Prop} {R : World → σ → Pr} {U : Pr} (h : ∀ w, CTX P f (fun w1 => w1 = w) ps (C' w) (R w)) (hR : ∀ w y v w', C' w y w' → (R w y).ok v w' → Ext w w' ∧ U.ok v w') : CT P f ps U := .of fun w vs hk =>
  (h w w vs rfl hk).mono fun e w' ⟨v, he, y, h1, h2⟩ => ⟨v, he, hR w y v w' h1 h2⟩
theorem CTX_ctg {P : Program} {f : FuncId} {ps : List Pr} {σ : Type} {C' : World → σ → World → Prop} {R : World → σ → Pr} {U : Nat → Pr} (h : ∀ w, CTX P f (fun w1 => w1 = w) ps (C' w) (R w)) (hR : ∀ w s y v w', s ≤ w.heap.size → C' w y w' → (R w y).ok v w' → Ext w w' ∧ (U s).ok v w') : CTG P f ps U := .of_ct fun w vs s hs hk =>
  (h w w vs rfl hk).mono fun e w' ⟨v, he, y, h1, h2⟩ => ⟨v, he, hR w s y v w' hs h1 h2⟩
end Go.Proofs.Ytanlaggnhocjhaa

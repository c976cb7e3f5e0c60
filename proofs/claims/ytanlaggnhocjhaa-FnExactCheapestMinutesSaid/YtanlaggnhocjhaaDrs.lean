/- The walk through a region that draws its order, with facts of what was done: own memory that calls made one after the other. -/
import Derived.Test.YtanlaggnhocjhaaDrr
import Derived.Test.YtanlaggnhocjhaaOwnG
namespace Go.Proofs.Ytanlaggnhocjhaa
set_option linter.unusedSimpArgs false
set_option linter.unusedVariables false
open Go.RowKit Go.ChangeShapes Go.WideShapes Go.ChangeAt Go.Deep
theorem Sep.joinR {w0 w1 w' : World} {L1 L : List Osl} (h0 : Sep w0 L w1) (h1 : Sep w1 L1 w') : Sep w0 (L1 ++ L) w' := by
  unfold Sep at h0 h1 ⊢
  obtain ⟨B0, hl0, c0⟩ := h0
  obtain ⟨B1, hl1, c1⟩ := h1
  have c0' := upC_cls upC_fct _ _ c0 c1.ext
  have hlt : ∀ x ∈ B0.filterMap (fun x => x.1), x < w1.heap.size := fun x hx => by
    obtain ⟨⟨A', t', c'⟩, hy, e⟩ := List.mem_filterMap.1 hx
    have e' : A' = some x := e
    subst e'
    exact (c0.blk _ hy : Blk w1 x t' c').lt
  refine ⟨B1 ++ B0, by rw [List.length_append, List.length_append, hl0, hl1], c0'.ext, ?_, fun x hx => ?_, fun x hx => ?_, fun m o x hm hx => ?_⟩
  · rw [List.filterMap_append]
    refine List.nodup_append.2 ⟨c1.nd, c0.nd, fun x hx y hy e => ?_⟩
    subst e
    have h1 := c1.lo x hx
    have h2 := hlt x hy
    omega
  · rw [List.filterMap_append] at hx
    rcases List.mem_append.1 hx with hx | hx
    · exact Nat.le_trans c0.ext.size (c1.lo x hx)
    · exact c0.lo x hx
  · rcases List.mem_append.1 hx with hx | hx
    · exact c1.blk x hx
    · exact c0'.blk x hx
  · rcases Nat.lt_or_ge m L1.length with h | h
    · rw [List.getElem?_append_left h] at hm
      rw [List.getElem?_append_left (by omega)] at hx
      exact c1.fct m o x hm hx
    · rw [List.getElem?_append_right h] at hm
      rw [List.getElem?_append_right (by omega), hl1] at hx
      exact c0'.fct _ o x hm hx
section
variable {P : Program} {ops : Array Oper} {C : World → Prop} {Q : Exit → Act → World → Prop} {N : Nat} {K : List (Nat × Pr)} {Rl : World → World → Prop} {tl rest : List Oper} {Fs : List (Nat × Fct)} {d : Nat} {ty : TypeId} {pos : String} {af : Array Edge} {g : Option (Nat × Bool)}
theorem ObR.congr {Wf : Fct} {K K' : List (Nat × Pr)} {o : Oper} {R : Pr} {F : Fct} (hK : ∀ t, lookK K t = lookK K' t) (h : ObR P ops Rl C Wf K o R F) : ObR P ops Rl C Wf K' o R F := fun a w hc hl => h a w hc fun t ht p hp => hl t ht p ((hK t).symm.trans hp)
theorem ObR.wf {Wf Wf' : Fct} {K : List (Nat × Pr)} {o : Oper} {R : Pr} {F : Fct} (hW : ∀ a w, Wf' a w → Wf a w) (h : ObR P ops Rl C Wf K o R F) : ObR P ops Rl C Wf' K o R F := fun a w hc hl hw => h a w hc hl (hW a w hw)
theorem wkR_step {o : Oper} {R : Pr} {F : Fct} (hd : o.dst = some d) (hR : okRl Rl R) (hst : StabR ops Rl o F) (hob : ObR P ops Rl C (fun a w => ∀ x ∈ Fs, waitsDB ops o x.1 = true → x.2 a w) K o R F) (h : WR P ops Rl N C Q tl ((d, F) :: Fs) ((d, R) :: K) rest) : WR P ops Rl N C Q tl Fs K (o :: rest) := by
  unfold WR at h ⊢
  obtain ⟨Rs, Fs', h1, h2, hF, hall⟩ := h
  have hz : zipK (o :: rest) (R :: Rs) = (d, R) :: zipK rest Rs := by simp [zipK, hd]
  refine ⟨R :: Rs, F :: Fs', by simp [h1], by simp [h2], fun a w hst' hFm => hF a w (by rw [hz] at hst'; simpa using hst') (fun G hG => hFm G ?_), fun i o' hi => ?_⟩
  · simp only [List.mem_append, List.mem_cons, List.map_cons] at hG ⊢
    rcases hG with h | h | h
    · exact .inl (.inr h)
    · exact .inl (.inl h)
    · exact .inr h
  · cases i with
    | zero =>
      simp at hi
      subst hi
      exact ⟨R, F, rfl, rfl, hR, hst, by simpa using hob.wf fun a w hw => hw.2⟩
    | succ i =>
      obtain ⟨R', F', e1, e2, e3, e4, e5⟩ := hall i o' (by simpa using hi)
      refine ⟨R', F', by simpa using e1, by simpa using e2, e3, e4, ?_⟩
      rw [hz]
      have e6 := e5.wf (Wf' := WfR ops (o :: rest) (F :: Fs') (i + 1) Fs o') (fun a w hw => by
        obtain ⟨hw1, hw2⟩ := hw
        refine ⟨fun j oj dj Fj hj hoj hdj hFj hwt => hw1 (j + 1) oj dj Fj (by omega) (by simpa using hoj) hdj (by simpa using hFj) hwt, fun x hx hwt => ?_⟩
        rcases List.mem_cons.1 hx with rfl | hx
        · exact hw1 0 o d F (by omega) rfl hd rfl hwt
        · exact hw2 x hx hwt)
      simpa using e6
theorem stabR_true {o : Oper} : StabR ops Rl o (fun _ _ => True) := fun _ _ _ _ _ _ _ _ _ _ => trivial
theorem wkR_true (h : WR P ops Rl N C Q tl Fs K rest) : WR P ops Rl N C Q tl ((d, fun _ _ => True) :: Fs) K rest := by
  unfold WR at h ⊢
  obtain ⟨Rs, Fs', h1, h2, hF, hall⟩ := h
  refine ⟨Rs, Fs', h1, h2, fun a w hst hFm => hF a w hst (fun G hG => hFm G ?_), fun i o hi => ?_⟩
  · simp only [List.mem_append, List.map_cons, List.mem_cons] at hG ⊢
    rcases hG with h | h
    · exact .inl h
    · exact .inr (.inr h)
  · obtain ⟨R, F, e1, e2, e3, e4, e5⟩ := hall i o hi
    exact ⟨R, F, e1, e2, e3, e4, e5.wf fun a w hw => ⟨hw.1, fun x hx => hw.2 x (List.mem_cons_of_mem _ hx)⟩⟩
theorem WR.congr {K K' : List (Nat × Pr)} {l : List Oper} (hK : ∀ t, lookK K t = lookK K' t) (h : WR P ops Rl N C Q tl Fs K l) : WR P ops Rl N C Q tl Fs K' l := by
  unfold WR at h ⊢
  obtain ⟨Rs, Fs', h1, h2, hF, hall⟩ := h
  have hap : ∀ (L : List (Nat × Pr)) (t : Nat), lookK (L ++ K) t = lookK (L ++ K') t := fun L t => by rw [lookK_append, lookK_append, hK]
  refine ⟨Rs, Fs', h1, h2, fun a w hst hFm => hF a w (hst.congr fun t => (hap _ t).symm) hFm, fun i o hi => ?_⟩
  obtain ⟨R, F, e1, e2, e3, e4, e5⟩ := hall i o hi
  exact ⟨R, F, e1, e2, e3, e4, e5.congr (hap _)⟩
theorem okRl_ext (p : Pr) : okRl Ext p := fun _ _ _ he hk => Pr.up_ok he hk
theorem wkR_stepper (hC : UpC C) : Stepper P ops C N (WR P ops Ext N C Q tl Fs) where
  step := fun {K o rest d R} hd _ hob h => wkR_step (F := fun _ _ => True) hd (okRl_ext R) stabR_true (fun a w hc hl _ _ => by
    have := hob a w hc hl
    split
    · rename_i hw
      rw [if_pos hw] at this
      unfold gives at this ⊢
      split at this <;> first
        | exact ⟨this.1, hC _ _ hc this.1, this.2, trivial⟩
        | exact this.mono fun e w'' ⟨v, h1, h2, h3⟩ => ⟨v, h1, h2, hC _ _ hc h2, h3, trivial⟩
        | exact this
    · rename_i hw
      rw [if_neg hw] at this
      exact ⟨Ext.refl _, this, trivial⟩) (wkR_true h)
  congr := fun hK h => h.congr hK
def SqR (P : Program) (ops : Array Oper) (N : Nat) (C : World → Prop) (Q : Exit → Act → World → Prop) (Fs : List (Nat × Fct)) (K : List (Nat × Pr)) (l : List Oper) : Prop :=
  ∀ a w, St N K C a w → (∀ x ∈ Fs, x.2 a w) → wpList P ops Q l a w
theorem WR_nil (h : SqR P ops N C Q Fs K tl) : WR P ops Rl N C Q tl Fs K [] := by
  unfold WR
  exact ⟨[], [], rfl, rfl, fun a w hst hF => h a w (by simpa [zipK] using hst) (fun x hx => hF x.2 (by simpa using ⟨x.1, hx⟩)), fun i o hi => by simp at hi⟩
theorem SqR_done {l : List Oper} (h : Sq P ops N C Q K l) : SqR P ops N C Q Fs K l := fun a w hst _ => by
  unfold Sq at h
  exact h a w hst
/-- What calls made, one after the other: the values of the slots, the memory. -/
def FSep (wr : World) {σ : Type} (slots : List (Nat × (σ → Value))) (L : σ → List Osl) (p : σ → Prop) : Fct := fun a w => ∃ y, (∀ x ∈ slots, a.tmps[x.1]? = some (x.2 y)) ∧ Sep wr (L y) w ∧ p y
theorem stabR_sep {wr : World} {σ : Type} {slots : List (Nat × (σ → Value))} {L : σ → List Osl} {p : σ → Prop} {o : Oper} (hs : (slots.all fun x => (o.dst == some x.1) || waitsDB ops o x.1) = true) : StabR ops Ext o (FSep wr slots L p) := fun a w f v w' hne _ hwf ⟨y, h1, h2, h3⟩ he => by
  refine ⟨y, fun x hx => ?_, upC_sep _ _ h2 he, h3⟩
  have hx1 := List.all_eq_true.1 hs x hx
  simp only [Bool.or_eq_true, beq_iff_eq] at hx1
  have hfx : f ≠ x.1 := fun e => by
    subst e
    rcases hx1 with h | h
    · exact hne h
    · rw [h] at hwf; cases hwf
  simp [Act.put, Array.getElem?_setIfInBounds, hfx, h1 x hx]
theorem WR_ctx0 {wr : World} {f : FuncId} {xs : Array Operand} {ats : Array TypeId} {ps : List Pr} {σ : Type} {L1 : σ → List Osl} {p : σ → Prop} {val : σ → Value} (hct : ∀ w1, CTX P f (fun u => u = w1) ps (fun y w' => Sep w1 (L1 y) w' ∧ p y) (fun y => .inl (val y))) (hN : Nat.blt d N = true) (hargs : knAll K xs.toList = some ps) (hB : callB P f = true)
    (h : WR P ops Ext N (Ext wr) Q tl ((d, FSep wr [(d, val)] L1 p) :: Fs) ((d, .inr uAny) :: K) rest) : WR P ops Ext N (Ext wr) Q tl Fs K (⟨some d, .call { callee := .value (.func f), args := xs, argTypes := ats }, ty, pos, af, none⟩ :: rest) := by
  refine wkR_step (F := FSep wr [(d, val)] L1 p) rfl (okRl_ext _) (stabR_sep (by simp)) (fun a w hc hl _ hsz => ?_) h
  rw [if_pos (by rfl)]
  obtain ⟨d', hd', hdl⟩ := hsz
  obtain rfl : d = d' := by simpa using hd'
  unfold gives
  rw [run_call hB rfl]
  have hall := knAll_ok (ρ := a.eval) (w := w) xs.toList ps hargs fun x hx p hp => kn_ok (ops := ops) (op := .call { callee := .value (.func f), args := xs, argTypes := ats }) (by simp only [Op.operands, Call.operands]; exact Array.mem_append.2 (.inr (Array.mem_toList_iff.1 hx))) hp hl
  have hcl := hct w w _ rfl hall
  have e1 : (xs.toList.map a.eval).toArray = xs.map a.eval := by
    apply Array.ext'
    simp
  rw [e1] at hcl
  refine hcl.mono fun en w' ⟨v, he, y, ⟨hS, hp⟩, hR⟩ => ⟨v, he, hS.ext, hc.trans hS.ext, trivial, y, fun x hx => ?_, ?_, hp⟩
  · obtain rfl : x = (d, val) := by simpa using hx
    obtain rfl : v = val y := hR
    simp [Act.put, Array.getElem?_setIfInBounds, hdl]
  · have := (sep_start hc).joinR hS
    rwa [List.append_nil] at this
theorem WR_ctxJ {wr : World} (d0 : Nat) {f : FuncId} {xs : Array Operand} {ats : Array TypeId} {ps : List Pr} {σ τ : Type} {slots : List (Nat × (τ → Value))} {L0 : τ → List Osl} {p0 : τ → Prop} {L1 : σ → List Osl} {p : σ → Prop} {val : σ → Value} (hF0 : (d0, FSep wr slots L0 p0) ∈ Fs)
    (hw0 : waitsDB ops ⟨some d, .call { callee := .value (.func f), args := xs, argTypes := ats }, ty, pos, af, none⟩ d0 = true) (hws : (slots.all fun x => waitsDB ops ⟨some d, .call { callee := .value (.func f), args := xs, argTypes := ats }, ty, pos, af, none⟩ x.1 && !(x.1 == d)) = true)
    (hct : ∀ w1, CTX P f (fun u => u = w1) ps (fun y w' => Sep w1 (L1 y) w' ∧ p y) (fun y => .inl (val y))) (hN : Nat.blt d N = true) (hargs : knAll K xs.toList = some ps) (hB : callB P f = true)
    (h : WR P ops Ext N (Ext wr) Q tl ((d, FSep wr (σ := σ × τ) ((d, fun y => val y.1) :: slots.map fun x => (x.1, fun y => x.2 y.2)) (fun y => L1 y.1 ++ L0 y.2) (fun y => p y.1 ∧ p0 y.2)) :: Fs) ((d, .inr uAny) :: K) rest) :
    WR P ops Ext N (Ext wr) Q tl Fs K (⟨some d, .call { callee := .value (.func f), args := xs, argTypes := ats }, ty, pos, af, none⟩ :: rest) := by
  have hws' : ∀ x ∈ slots, waitsDB ops ⟨some d, .call { callee := .value (.func f), args := xs, argTypes := ats }, ty, pos, af, none⟩ x.1 = true ∧ x.1 ≠ d := fun x hx => by
    have := List.all_eq_true.1 hws x hx
    simpa using this
  refine wkR_step rfl (okRl_ext _) (stabR_sep ?_) (fun a w hc hl hwf hsz => ?_) h
  · rw [List.all_eq_true]
    intro x hx
    rcases List.mem_cons.1 hx with rfl | hx
    · simp
    · obtain ⟨z, hz, rfl⟩ := List.mem_map.1 hx
      simp [(hws' z hz).1]
  · rw [if_pos (by rfl)]
    obtain ⟨d', hd', hdl⟩ := hsz
    obtain rfl : d = d' := by simpa using hd'
    obtain ⟨y0, hv0, hS0, hp0⟩ := hwf _ hF0 hw0
    unfold gives
    rw [run_call hB rfl]
    have hall := knAll_ok (ρ := a.eval) (w := w) xs.toList ps hargs fun x hx p hp => kn_ok (ops := ops) (op := .call { callee := .value (.func f), args := xs, argTypes := ats }) (by simp only [Op.operands, Call.operands]; exact Array.mem_append.2 (.inr (Array.mem_toList_iff.1 hx))) hp hl
    have hcl := hct w w _ rfl hall
    have e1 : (xs.toList.map a.eval).toArray = xs.map a.eval := by
      apply Array.ext'
      simp
    rw [e1] at hcl
    refine hcl.mono fun en w' ⟨v, he, y, ⟨hS, hp⟩, hR⟩ => ⟨v, he, hS.ext, hc.trans hS.ext, trivial, (y, y0), fun x hx => ?_, hS0.joinR hS, hp, hp0⟩
    obtain rfl : v = val y := hR
    rcases List.mem_cons.1 hx with rfl | hx
    · simp [Act.put, Array.getElem?_setIfInBounds, hdl]
    · obtain ⟨z, hz, rfl⟩ := List.mem_map.1 hx
      have hne : d ≠ z.1 := fun e => (hws' z hz).2 e.symm
      simp [Act.put, Array.getElem?_setIfInBounds, hne, hv0 z hz]
/-- The tail knows the values, and owns the memory. -/
theorem SqR_open {l : List Oper} {q wr : World} {L0 : List Osl} (d0 : Nat) {σ : Type} {slots : List (Nat × (σ → Value))} {L : σ → List Osl} {p : σ → Prop} (hS : Sep q L0 wr) (hF : (d0, FSep wr slots L p) ∈ Fs)
    (h : ∀ y, p y → Sq P ops N (Sep q (L y ++ L0)) Q ((slots.map fun x => (x.1, .inl (x.2 y))) ++ K) l) : SqR P ops N (Ext wr) Q Fs K l := by
  intro a w hst hFm
  obtain ⟨y, hv, hSy, hp⟩ := hFm _ hF
  have hsq := h y hp
  unfold Sq at hsq
  refine hsq a w ⟨hst.size, hst.defers, fun t p' hp' => ?_, hS.joinR hSy⟩
  rw [lookK_append] at hp'
  cases hk : lookK (slots.map fun x => (x.1, (.inl (x.2 y) : Pr))) t with
  | some q' =>
    rw [hk] at hp'
    have : q' = p' := by simpa using hp'
    subst this
    obtain ⟨x, hx, e⟩ := List.mem_map.1 (lookK_some hk)
    injection e with e1 e2
    subst e1 e2
    exact ⟨_, hv x hx, rfl⟩
  | none =>
    rw [hk] at hp'
    exact hst.slots t p' (by simpa using hp')
theorem cells_1 {u : Value} (h : u.oneCell' = true) : u.cells = #[u] := by
  cases u <;> first | rfl | simp [Value.oneCell'] at h
/-- A slice of one element, whose value a call made. -/
theorem WR_one {wr : World} {t e : TypeId} {s : Nat} (hB : appB P t e 1 = true) (hN : Nat.blt d N = true) (hne : Nat.beq s d = false) (d0 : Nat) {σ : Type} {slots : List (Nat × (σ → Value))} {L1 : σ → List Osl} {p : σ → Prop} {val : σ → Value} (hF : (d0, FSep wr slots L1 p) ∈ Fs) (hs : (s, val) ∈ slots) (hone : ∀ y w, Sep wr (L1 y) w → (val y).oneCell' = true)
    (hw : waitsDB ops ⟨some d, .buildSlice t 1 #[(0, .tmp s)], ty, pos, af, none⟩ d0 = true)
    (h : WR P ops Ext N (Ext wr) Q tl ((d, FOne e s d) :: Fs) ((d, .inr uAny) :: K) rest) : WR P ops Ext N (Ext wr) Q tl Fs K (⟨some d, .buildSlice t 1 #[(0, .tmp s)], ty, pos, af, none⟩ :: rest) := by
  have hsd : s ≠ d := fun e => by subst e; rw [Nat.beq_refl] at hne; cases hne
  refine wkR_step (F := FOne e s d) rfl (okRl_ext _) (fun a w f v w' hnf hlk _ ⟨u, g, h1, h2, h3⟩ he => ?_) (fun a w hc hk hwf hsz => ?_) h
  · have h4 : f ≠ d := fun h => hnf (by simp [h])
    have h5 : f ≠ s := fun h => hlk (List.mem_append_left _ (List.mem_filterMap.2 ⟨.tmp s, by simp [Op.operands], by rw [h]⟩))
    exact ⟨u, g, by simp [Act.put, Array.getElem?_setIfInBounds, h5, h1], by simp [Act.put, Array.getElem?_setIfInBounds, h4, h2], h3.ext he⟩
  · rw [if_pos (by rfl)]
    obtain ⟨y, hv, hS, hp⟩ := hwf _ hF hw
    have hu : a.tmps[s]? = some (val y) := hv _ hs
    have hu1 := hone y w hS
    have hev : a.eval (.tmp s) = val y := by simp [Act.eval, hu]
    have hcz := cells_1 hu1
    have hr := Go.Proofs.Ytanlaggnhocjhaa.run_build (P := P) (d := d) (ty := ty) (pos := pos) (af := af) (g := none) (t := t) (e := e) (len := 1) (k := 1) (parts := #[(0, .tmp s)]) (xs := [.tmp s]) (ρ := a.eval) (w := w) (by omega) hB rfl rfl (by omega) (fun v hv => by simp at hv; subst hv; rw [hev, hcz]; rfl)
    unfold gives
    rw [hr]
    obtain ⟨d', hd', hdl⟩ := hsz
    have : d' = d := by simpa using hd'.symm
    subst this
    refine ⟨new_ext w _, hc.trans (new_ext w _), trivial, val y, w.heap.size, by simp [Act.put, Array.getElem?_setIfInBounds, Ne.symm hsd, hu], by simp [Act.put, Array.getElem?_setIfInBounds, hdl], ?_⟩
    have e1 : (([.tmp s] : List Operand).map a.eval |>.flatMap fun v => v.cells.toList) = (val y).cells.toList := by simp [hev]
    rw [e1]
    exact heap_alloc_new w _
theorem SqR_openI {l : List Oper} {q wr : World} {L0 : List Osl} (d0 : Nat) {σ : Type} {slots : List (Nat × (σ → Value))} {L : σ → List Osl} {p : σ → Prop} (hS : Sep q L0 wr) (hF : (d0, FSep wr slots L p) ∈ Fs)
    (d1 : Nat) {e : TypeId} {s d : Nat} {val : σ → Value} (hF1 : (d1, FOne e s d) ∈ Fs) (hs : (s, val) ∈ slots) (hone : ∀ y w, Sep wr (L y) w → (val y).oneCell' = true)
    (h : ∀ y, p y → Sq P ops N (Sep q (L y ++ L0)) Q ((d, .inr (uS (some e) pV [val y])) :: ((slots.map fun x => (x.1, .inl (x.2 y))) ++ K)) l) : SqR P ops N (Ext wr) Q Fs K l := by
  intro a w hst hFm
  obtain ⟨y, hv, hSy, hp⟩ := hFm _ hF
  obtain ⟨u, g, hu, hd, hb⟩ := hFm _ hF1
  have hsq := h y hp
  unfold Sq at hsq
  refine hsq a w ⟨hst.size, hst.defers, fun t p' hp' => ?_, hS.joinR hSy⟩
  by_cases ed : d = t
  · subst ed
    rw [lookK_same] at hp'
    injection hp' with hp'
    subst hp'
    have e2 : u = val y := by have := hv _ hs; rw [this] at hu; injection hu with hu; exact hu.symm
    subst e2
    have h1 := hone y w hSy
    rw [cells_1 h1] at hb
    exact ⟨_, hd, blk_one hb h1⟩
  rw [lookK_ne _ ed, lookK_append] at hp'
  cases hk : lookK (slots.map fun x => (x.1, (.inl (x.2 y) : Pr))) t with
  | some q' =>
    rw [hk] at hp'
    have : q' = p' := by simpa using hp'
    subst this
    obtain ⟨x, hx, e⟩ := List.mem_map.1 (lookK_some hk)
    injection e with e1 e2
    subst e1 e2
    exact ⟨_, hv x hx, rfl⟩
  | none =>
    rw [hk] at hp'
    exact hst.slots t p' (by simpa using hp')
theorem H_drawR {id : Nat} {l : List Oper} (H T : List Nat) (hm : P.follows .mixedOrders = true) (hB : drawB l.toArray N [] H T = true) (hC : UpC C)
    (h : WR P l.toArray Ext N C Q (pickL l T) [] K (pickL l H)) : Hc P N K C (.region id l.toArray true) Q := .of fun a w hst => by
  have hb : ∀ i ∈ H ++ T, i < l.length := fun i hi => by
    simp only [drawB, Bool.and_eq_true] at hB
    simpa using List.all_eq_true.1 hB.2 i (by simpa using hi)
  have hdrew : Ext w w.drew := (Ext.refl w).drew
  exact region_drawR H T _ _ hm hB (pickL_map fun i hi => hb i (by simp [hi])) (pickL_map fun i hi => hb i (by simp [hi])) (fun _ p _ => okRl_ext p) h
    ⟨hst.size, hst.defers, fun t p hp => (let ⟨v, hv, hk⟩ := hst.slots t p hp; ⟨v, hv, Pr.up_ok hdrew hk⟩), hC _ _ hst.cls hdrew⟩
end
theorem Sep.of_uO {wr w : World} {α : Type} {e : TypeId} {Ψ : Phi α} {hfl : Flat Ψ} {xs : List α} {v : Value} (hE : Ext wr w) (h : (uO wr.heap.size (oF e Ψ hfl) xs).R v w) : Sep wr [.sl α e Ψ xs v] w := by
  obtain ⟨S, hS, A, n, c, cs, ⟨p, h1, h1p⟩, h2, h3, h4, h5, h6, h7, h8, h9⟩ := h
  subst h2 h1
  obtain ⟨Bs, hl, hcl⟩ := (by have := sep_start (Ext.refl wr); unfold Sep at this; exact this : ∃ Bs : BL, Bs.length = ([] : List Osl).length ∧ Cls wr Bs (FctL [] Bs) wr)
  cases A with
  | none =>
    have h6' : cs = [] := h6
    subst h6'
    exact sep_cons hl ((upC_cls upC_fct _ _ hcl hE).none e) ⟨c, rfl, ⟨_, rfl, h1p⟩, h3, h4, h5, h8, h9⟩
  | some g => exact sep_cons hl (hcl.fresh upC_fct hE (hS g (h7 g rfl)).1 h6) ⟨c, rfl, ⟨_, rfl, h1p⟩, h3, h4, h5, h8, h9⟩
/-- What a contract gives as new memory of its own, as memory that is owned. -/
theorem ctg_ctx {P : Program} {f : FuncId} {ps : List Pr} {α : Type} {e : TypeId} {Ψ : Phi α} {hfl : Flat Ψ} {xs : List α} (h : CTG P f ps (fun s => .inr (uO s (oF e Ψ hfl) xs))) (w1 : World) : CTX P f (fun u => u = w1) ps (fun (y : Value) w' => Sep w1 [.sl α e Ψ xs y] w' ∧ True) (fun y => .inl y) := fun w vs hw hk => by
  subst hw
  refine (h.at (Nat.le_refl w.heap.size) hk).mono fun en w' ⟨v, he, hext, S, hS, A, n, c, cs, hp, h2, h3, h4, h5, h6, h7, h8, h9⟩ => ⟨v, he, v, ⟨?_, trivial⟩, rfl⟩
  subst h2
  obtain ⟨Bs, hl, hcl⟩ := (by have := sep_start (Ext.refl w); unfold Sep at this; exact this : ∃ Bs : BL, Bs.length = ([] : List Osl).length ∧ Cls w Bs (FctL [] Bs) w)
  obtain ⟨p, h1, h1p⟩ := hp
  subst h1
  cases A with
  | none =>
    have h6' : cs = [] := h6
    subst h6'
    exact sep_cons hl ((upC_cls upC_fct _ _ hcl hext).none e) ⟨c, rfl, ⟨_, rfl, h1p⟩, h3, h4, h5, h8, h9⟩
  | some g => exact sep_cons hl (hcl.fresh upC_fct hext (hS g (h7 g rfl)).1 h6) ⟨c, rfl, ⟨_, rfl, h1p⟩, h3, h4, h5, h8, h9⟩
end Go.Proofs.Ytanlaggnhocjhaa

/-
  New blocks in the head of a region that draws its order: each by its name.
-/
import Derived.Test.YtanlaggnhocjhaaDrg
namespace Go.Proofs.Ytanlaggnhocjhaa
set_option linter.unusedSimpArgs false
set_option linter.unusedVariables false
open Go.RowKit

/-- What is new: where it is told, the block's type and content, its value, what it is to be called. -/
structure Nw where
  slot : Nat
  e : TypeId
  cs : List Value
  val : Nat → Value
  o : Nat → Osl
structure Nw.Ok (n : Nw) : Prop where
  b : ∀ g, vblk (n.val g) = some g
  h : ∀ g w, (n.o g).at (some g, n.e, n.cs) w
def uNw (s : Nat) (n : Nw) : UR := ⟨fun v w => ∃ g, v = n.val g ∧ s ≤ g ∧ Blk w g n.e n.cs, fun _ _ _ he ⟨g, h1, h2, h3⟩ => ⟨g, h1, h2, h3.ext he⟩⟩
def openK : List Nw → List Nat → List (Nat × Pr)
  | n :: ns, g :: gs => (n.slot, .inl (n.val g)) :: openK ns gs
  | _, _ => []
def openL : List Nw → List Nat → List Osl
  | n :: ns, g :: gs => n.o g :: openL ns gs
  | _, _ => []
def openB : List Nw → List Nat → BL
  | n :: ns, g :: gs => (some g, n.e, n.cs) :: openB ns gs
  | _, _ => []
theorem open_len : ∀ {ns : List Nw} {gs : List Nat}, gs.length = ns.length → (openB ns gs).length = (openL ns gs).length
  | [], [], _ => rfl
  | _ :: _, _ :: gs, h => by simp [openB, openL, open_len (gs := gs) (by simpa using h)]
theorem openB_fm : ∀ {ns : List Nw} {gs : List Nat}, gs.length = ns.length → (openB ns gs).filterMap (fun x => x.1) = gs
  | [], [], _ => rfl
  | n :: ns, g :: gs, h => by
    have := openB_fm (ns := ns) (gs := gs) (by simpa using h)
    simp [openB, List.filterMap_cons, this]
theorem openL_at {w : World} : ∀ {ns : List Nw} {gs : List Nat}, (∀ n ∈ ns, n.Ok) → ∀ (m : Nat) (o : Osl) (x : Option Nat × TypeId × List Value), (openL ns gs)[m]? = some o → (openB ns gs)[m]? = some x → o.at x w
  | n :: ns, g :: gs, hok, 0, o, x, h1, h2 => by
    simp only [openL, openB, List.getElem?_cons_zero, Option.some.injEq] at h1 h2
    subst h1 h2
    exact (hok n (by simp)).h g w
  | n :: ns, g :: gs, hok, m + 1, o, x, h1, h2 => openL_at (ns := ns) (gs := gs) (fun n hn => hok n (List.mem_cons_of_mem _ hn)) m o x (by simpa [openL] using h1) (by simpa [openB] using h2)
  | [], _, _, m, o, x, h1, _ => by simp [openL] at h1
  | _ :: _, [], _, m, o, x, h1, _ => by simp [openL] at h1

section
variable {P : Program} {ops : Array Oper} {C : World → Prop} {Q : Exit → Act → World → Prop} {N : Nat} {K : List (Nat × Pr)} {tl rest : List Oper} {FS : List Nat} {Fs : List (Act → World → Prop)} {d : Nat} {ty : TypeId} {pos : String} {af : Array Edge}
theorem ObG.congr {K K' : List (Nat × Pr)} {o : Oper} {R : Pr} {F : Act → World → Prop} {fr : Bool} (hK : ∀ t, lookK K t = lookK K' t) (h : ObG P ops C K o R F fr) : ObG P ops C K' o R F fr :=
  fun a w hc hl hs => h a w hc (fun t ht p hp => hl t ht p (by rw [← hK]; exact hp)) hs
theorem wkG_step {o : Oper} {R : Pr} {F : Act → World → Prop} {f : Bool} (hd : o.dst = some d) (hst : StabF ops o F) (hob : ObG P ops C K o R F f) (h : WG P ops N C Q tl ((if f then [d] else []) ++ FS) (F :: Fs) ((d, R) :: K) rest) : WG P ops N C Q tl FS Fs K (o :: rest) := by
  unfold WG at h ⊢
  obtain ⟨Rs, Fs', fs, h1, h2, h3, hF, hall⟩ := h
  have hz : zipK (o :: rest) (R :: Rs) = (d, R) :: zipK rest Rs := by simp [zipK, hd]
  refine ⟨R :: Rs, F :: Fs', f :: fs, by simp [h1], by simp [h2], by simp [h3], fun a w hst' hFm hdis => hF a w (by rw [hz] at hst'; simpa using hst') (fun G hG => hFm G ?_) (hdis.sub fun s hs => ?_), fun i o' hi => ?_⟩
  · simp only [List.mem_append, List.mem_cons] at hG ⊢
    rcases hG with h | h | h
    · exact .inl (.inr h)
    · exact .inl (.inl h)
    · exact .inr h
  · simp only [newFS, hd, Option.getD_some]
    simp only [List.mem_append] at hs ⊢
    rcases hs with hs | hs | hs
    · exact .inl (.inr hs)
    · exact .inl (.inl hs)
    · exact .inr hs
  · cases i with
    | zero =>
      simp at hi
      subst hi
      exact ⟨R, F, f, rfl, rfl, rfl, hst, by simpa using hob⟩
    | succ i =>
      obtain ⟨R', F', f', e1, e2, e3, e4, e5⟩ := hall i o' (by simpa using hi)
      exact ⟨R', F', f', by simpa using e1, by simpa using e2, by simpa using e3, e4, by rw [hz]; simpa using e5⟩
theorem stabF_true {o : Oper} : StabF ops o (fun _ _ => True) := fun _ _ _ _ _ _ _ _ _ => trivial
theorem wkG_true (h : WG P ops N C Q tl FS Fs K rest) : WG P ops N C Q tl FS ((fun _ _ => True) :: Fs) K rest := by
  unfold WG at h ⊢
  obtain ⟨Rs, Fs', fs, h1, h2, h3, hF, hall⟩ := h
  refine ⟨Rs, Fs', fs, h1, h2, h3, fun a w hst hFm hdis => hF a w hst (fun G hG => hFm G ?_) hdis, hall⟩
  simp only [List.mem_append, List.mem_cons] at hG ⊢
  rcases hG with h | h
  · exact .inl h
  · exact .inr (.inr h)
theorem wkG_stepper : Stepper P ops C N (WG P ops N C Q tl FS Fs) where
  step := fun {K o rest d R} hd _ hob h => wkG_step (F := fun _ _ => True) (f := false) hd stabF_true (fun a w hc hl _ => by
    have := hob a w hc hl
    split
    · rename_i hw
      rw [if_pos hw] at this
      unfold gives at this ⊢
      split at this <;> first
        | exact ⟨this.1, this.2, trivial, fun h => by cases h⟩
        | exact this.mono fun e w'' ⟨v, h1, h2, h3⟩ => ⟨v, h1, h2, h3, trivial, fun h => by cases h⟩
        | exact this
    · rename_i hw
      rw [if_neg hw] at this
      exact ⟨this, trivial, rfl⟩) (wkG_true (by simpa using h))
  congr := by
    intro K K' l hK h
    unfold WG at h ⊢
    obtain ⟨Rs, Fs', fs, h1, h2, h3, hF, hall⟩ := h
    have hap : ∀ (L : List (Nat × Pr)) (t : Nat), lookK (L ++ K) t = lookK (L ++ K') t := fun L t => by rw [lookK_append, lookK_append, hK]
    refine ⟨Rs, Fs', fs, h1, h2, h3, fun a w hst hFm hdis => hF a w (hst.congr fun t => (hap _ t).symm) hFm hdis, fun i o hi => ?_⟩
    obtain ⟨R, F, f, e1, e2, e3, e4, e5⟩ := hall i o hi
    exact ⟨R, F, f, e1, e2, e3, e4, e5.congr (hap _)⟩
def SqG (P : Program) (ops : Array Oper) (N : Nat) (C : World → Prop) (Q : Exit → Act → World → Prop) (FS : List Nat) (Fs : List (Act → World → Prop)) (K : List (Nat × Pr)) (l : List Oper) : Prop :=
  ∀ a w, St N K C a w → (∀ F ∈ Fs, F a w) → DisS FS a → wpList P ops Q l a w
theorem WkG_nil (h : SqG P ops N C Q FS Fs K tl) : WG P ops N C Q tl FS Fs K [] := by
  unfold WG
  exact ⟨[], [], [], rfl, rfl, rfl, fun a w hst hF hd => h a w (by simpa [zipK] using hst) (by simpa using hF) (by simpa [newFS] using hd), fun i o hi => by simp at hi⟩
theorem SqG_done {l : List Oper} (h : Sq P ops N C Q K l) : SqG P ops N C Q FS Fs K l := fun a w hst _ _ => by
  unfold Sq at h
  exact h a w hst
theorem SqG_know {l : List Oper} (t : Nat) (v : Value) (h1 : ∀ a w, St N K C a w → (∀ F ∈ Fs, F a w) → a.tmps[t]? = some v) (h : SqG P ops N C Q FS Fs ((t, .inl v) :: K) l) : SqG P ops N C Q FS Fs K l := fun a w hst hF hd =>
  h a w ⟨hst.size, hst.defers, fun s p hp => by
    by_cases e : t = s
    · subst e
      rw [lookK_same] at hp
      injection hp with hp
      subst hp
      exact ⟨v, h1 a w hst hF, rfl⟩
    · rw [lookK_ne _ e] at hp
      exact hst.slots s p hp, hst.cls⟩ hF hd
theorem SqG_fact {l : List Oper} (t : Nat) (U : UR) (h1 : ∀ a w, St N K C a w → (∀ F ∈ Fs, F a w) → ∃ v, a.tmps[t]? = some v ∧ U.R v w) (h : SqG P ops N C Q FS Fs ((t, .inr U) :: K) l) : SqG P ops N C Q FS Fs K l := fun a w hst hF hd =>
  h a w ⟨hst.size, hst.defers, fun s p hp => by
    by_cases e : t = s
    · subst e
      rw [lookK_same] at hp
      injection hp with hp
      subst hp
      exact h1 a w hst hF
    · rw [lookK_ne _ e] at hp
      exact hst.slots s p hp, hst.cls⟩ hF hd
theorem gs_exist {a : Act} {w : World} {s : Nat} : ∀ (ns : List Nw), (∀ n ∈ ns, ∃ v, a.tmps[n.slot]? = some v ∧ (uNw s n).R v w) → ∃ gs : List Nat, gs.length = ns.length ∧ ∀ (i : Nat) n g, ns[i]? = some n → gs[i]? = some g → a.tmps[n.slot]? = some (n.val g) ∧ s ≤ g ∧ Blk w g n.e n.cs
  | [], _ => ⟨[], rfl, fun i n g h => by simp at h⟩
  | n :: ns, h => by
    obtain ⟨gs, h1, h2⟩ := gs_exist ns fun n hn => h n (List.mem_cons_of_mem _ hn)
    obtain ⟨v, hv, g, rfl, h3, h4⟩ := h n (by simp)
    refine ⟨g :: gs, by simp [h1], fun i n' g' hi hg => ?_⟩
    cases i with
    | zero => simp at hi hg; subst hi hg; exact ⟨hv, h3, h4⟩
    | succ i => exact h2 i n' g' (by simpa using hi) (by simpa using hg)
theorem SqG_open {l : List Oper} {q wr : World} {L : List Osl} (ns : List Nw) (hS : Sep q L wr) (hok : ∀ n ∈ ns, n.Ok) (hk : ∀ n ∈ ns, lookK K n.slot = some (.inr (uNw wr.heap.size n)) ∧ n.slot ∈ FS) (hnd : (ns.map Nw.slot).Nodup)
    (h : ∀ gs, gs.length = ns.length → SqG P ops N (Sep q (openL ns gs ++ L)) Q FS Fs (openK ns gs ++ K) l) : SqG P ops N (Ext wr) Q FS Fs K l := by
  intro a w hst hF hd
  obtain ⟨gs, hgl, hgs⟩ := gs_exist (a := a) (w := w) (s := wr.heap.size) ns fun n hn => hst.slots n.slot _ (hk n hn).1
  have hget : ∀ (i : Nat) n, ns[i]? = some n → ∃ g, gs[i]? = some g := fun i n hi => by
    have hil : i < gs.length := by rw [hgl]; exact (List.getElem?_eq_some_iff.1 hi).1
    exact ⟨gs[i], List.getElem?_eq_getElem hil⟩
  have hget' : ∀ (i : Nat) g, gs[i]? = some g → ∃ n, ns[i]? = some n := fun i g hi => by
    have hil : i < ns.length := by rw [← hgl]; exact (List.getElem?_eq_some_iff.1 hi).1
    exact ⟨ns[i], List.getElem?_eq_getElem hil⟩
  have hgn : gs.Nodup := by
    refine List.pairwise_iff_getElem.2 fun i j hi hj hij heq => ?_
    obtain ⟨g, hg⟩ : ∃ g, gs[j]? = some g := ⟨_, List.getElem?_eq_getElem hj⟩
    have hg' : gs[i]? = some g := by rw [← hg, List.getElem?_eq_getElem hi, List.getElem?_eq_getElem hj, heq]
    obtain ⟨n, hn⟩ := hget' i g hg'
    obtain ⟨n', hn'⟩ := hget' j g hg
    have h1 := hgs i n g hn hg'
    have h2 := hgs j n' g hn' hg
    have hm := List.mem_of_getElem? hn
    have hm' := List.mem_of_getElem? hn'
    have hne : n.slot ≠ n'.slot := fun e => by
      have e1 : (ns.map Nw.slot)[i]? = some n.slot := by rw [List.getElem?_map, hn]; rfl
      have e2 : (ns.map Nw.slot)[j]? = some n.slot := by rw [List.getElem?_map, hn', e]; rfl
      have := (List.getElem?_inj (by rw [List.length_map]; exact (List.getElem?_eq_some_iff.1 hn).1) hnd).1 (e1.trans e2.symm)
      omega
    have := hd n.slot (hk n hm).2 n'.slot (hk n' hm').2 hne _ _ h1.1 h2.1
    rw [(hok n hm).b, (hok n' hm').b] at this
    exact this rfl
  refine h gs hgl a w ⟨hst.size, hst.defers, fun t p hp => ?_, ?_⟩ hF hd
  · have key : ∀ (ns : List Nw) (gs : List Nat), (∀ (i : Nat) n g, ns[i]? = some n → gs[i]? = some g → a.tmps[n.slot]? = some (n.val g)) → ∀ t p, lookK (openK ns gs ++ K) t = some p → okAt p a t w := by
      intro ns
      induction ns with
      | nil => intro gs _ t p hp; exact hst.slots t p (by simpa [openK] using hp)
      | cons n ns ih =>
        intro gs hg t p hp
        cases gs with
        | nil => exact hst.slots t p (by simpa [openK] using hp)
        | cons g gs =>
          by_cases e : n.slot = t
          · subst e
            simp only [openK, List.cons_append] at hp
            rw [lookK_same] at hp
            injection hp with hp
            subst hp
            exact ⟨_, hg 0 n g rfl rfl, rfl⟩
          · simp only [openK, List.cons_append] at hp
            rw [lookK_ne _ e] at hp
            exact ih gs (fun i n' g' h1 h2 => hg (i + 1) n' g' (by simpa using h1) (by simpa using h2)) t p hp
    exact key ns gs (fun i n g h1 h2 => (hgs i n g h1 h2).1) t p hp
  · have hS' := hS
    unfold Sep at hS' ⊢
    obtain ⟨Bs, hl, hc⟩ := hS'
    have hcw := upC_cls upC_fct _ _ hc hst.cls
    have hlt : ∀ x ∈ Bs.filterMap (fun x => x.1), x < wr.heap.size := fun x hx => by
      obtain ⟨⟨A', t', c'⟩, hy, e⟩ := List.mem_filterMap.1 hx
      have e' : A' = some x := e
      subst e'
      exact (hc.blk _ hy : Blk wr x t' c').lt
    have hgge : ∀ g ∈ gs, wr.heap.size ≤ g := fun g hg => by
      obtain ⟨i, hi⟩ := List.mem_iff_getElem?.1 hg
      obtain ⟨n, hn⟩ := hget' i g hi
      exact (hgs i n g hn hi).2.1
    have hfm := openB_fm hgl
    refine ⟨openB ns gs ++ Bs, by rw [List.length_append, List.length_append, open_len hgl, hl], hcw.ext, ?_, fun x hx => ?_, fun x hx => ?_, fun m o x hm hx => ?_⟩
    · rw [List.filterMap_append, hfm]
      refine List.nodup_append.2 ⟨hgn, hcw.nd, fun x hx y hy e => ?_⟩
      subst e
      have h1 := hgge x hx
      have h2 := hlt x hy
      omega
    · rw [List.filterMap_append, hfm] at hx
      rcases List.mem_append.1 hx with hx | hx
      · exact Nat.le_trans hc.ext.size (hgge x hx)
      · exact hcw.lo x hx
    · rcases List.mem_append.1 hx with hx | hx
      · have key : ∀ (ns : List Nw) (gs : List Nat), (∀ (i : Nat) n g, ns[i]? = some n → gs[i]? = some g → Blk w g n.e n.cs) → x ∈ openB ns gs → BlkO w x := by
          intro ns
          induction ns with
          | nil => intro gs _ h; simp [openB] at h
          | cons n ns ih =>
            intro gs hg h
            cases gs with
            | nil => simp [openB] at h
            | cons g gs =>
              simp only [openB, List.mem_cons] at h
              rcases h with rfl | h
              · exact hg 0 n g rfl rfl
              · exact ih gs (fun i n' g' h1 h2 => hg (i + 1) n' g' (by simpa using h1) (by simpa using h2)) h
        exact key ns gs (fun i n g h1 h2 => (hgs i n g h1 h2).2.2) hx
      · exact hcw.blk x hx
    · have hbl := open_len hgl
      rcases Nat.lt_or_ge m (openL ns gs).length with h | h
      · rw [List.getElem?_append_left h] at hm
        rw [List.getElem?_append_left (by omega)] at hx
        exact openL_at hok m o x hm hx
      · rw [List.getElem?_append_right h] at hm
        rw [List.getElem?_append_right (by omega), hbl] at hx
        exact hcw.fct _ o x hm hx
theorem stabF_dst {o : Oper} {d : Nat} {U : Value → World → Prop} (hd : o.dst = some d) (hU : ∀ v w w', Ext w w' → U v w → U v w') : StabF ops o (fun a w => ∃ v, a.tmps[d]? = some v ∧ U v w) := fun a w e v w' hne _ ⟨u, hu, h⟩ he =>
  ⟨u, by have : e ≠ d := fun h => hne (by rw [hd, h]); simp [Act.put, Array.getElem?_setIfInBounds, this, hu], hU _ _ _ he h⟩
/-- A slice by make. -/
theorem G_make {wr : World} {t e : TypeId} {k : Nat} {x y : Operand} {n : Int} (nw : Nw) (hB : makeB P t e k = true) (hN : Nat.blt d N = true) (hx : kn K x = some (.inl (.int .i64 n))) (hy : kn K y = some (.inl (.int .i64 n))) (h0 : 0 ≤ n ∧ n * 4096 ≤ 281474976710656)
    (hnw : nw.e = e ∧ nw.cs = (madeCells (zeroOf P e) (n.toNat * k)).toList ∧ nw.val = fun g => .slice (some ⟨g, 0, none⟩) n.toNat n.toNat)
    (h : WG P ops N (Ext wr) Q tl (d :: FS) Fs ((d, .inr (uNw wr.heap.size nw)) :: K) rest) : WG P ops N (Ext wr) Q tl FS Fs K (⟨some d, .makeSlice t x y, ty, pos, af, none⟩ :: rest) := by
  refine wkG_step (F := fun _ _ => True) (f := true) (R := .inr (uNw wr.heap.size nw)) rfl stabF_true (fun a w hc hk _ => ?_) (wkG_true (by simpa using h))
  rw [if_pos (by rfl)]
  simp only [makeB, Bool.and_eq_true] at hB
  obtain ⟨h1, h2⟩ := hB
  split at h1
  case h_2 => cases h1
  rename_i e' hu
  have he := Nat.eq_of_beq_eq_true h1
  subst he
  split at h2
  case h_2 => cases h2
  rename_i i hi
  simp only [Bool.and_eq_true] at h2
  obtain ⟨⟨h3, h4⟩, h5⟩ := h2
  split at h3
  case h_2 => cases h3
  rename_i z hz
  have hkk := Nat.eq_of_beq_eq_true h4
  have hby := Nat.le_of_ble_eq_true h5
  have hzz : zeroOf P e' = z.cells := by simp [zeroOf, hi, hz]
  have hxv : a.eval x = .int .i64 n := kn_ok (ops := ops) (op := .makeSlice t x y) (by simp [Op.operands]) hx hk
  have hyv : a.eval y = .int .i64 n := kn_ok (ops := ops) (op := .makeSlice t x y) (by simp [Op.operands]) hy hk
  have hrun := run_make (P := P) w t e' i z hu hi hz .i64 .i64 n n h0.1 (Int.le_refl _) (by
    have : (i.bytes : Int) * n ≤ 4096 * n := Int.mul_le_mul_of_nonneg_right (by omega) h0.1
    omega) (by omega)
  rw [hkk, ← hzz] at hrun
  have hr2 : (execOp a.eval ⟨some d, .makeSlice t x y, ty, pos, af, none⟩).run P w = .ok (.value (.slice (some ⟨w.heap.size, 0, none⟩) n.toNat n.toNat)) (w.alloc (.cells (madeCells (zeroOf P e') (n.toNat * k)) e')) := by
    simp only [execOp, hxv, hyv, Sem.run_bind, hrun, Result.andThen_ok, Sem.run_pure]
  unfold gives
  rw [hr2]
  have hB : Blk (w.alloc (.cells (madeCells (zeroOf P e') (n.toNat * k)) e')) w.heap.size e' (madeCells (zeroOf P e') (n.toNat * k)).toList := by
    unfold Blk
    rw [Array.toArray_toList]
    exact heap_alloc_new w _
  obtain ⟨n1, n2, n3⟩ := hnw
  exact ⟨new_ext w _, ⟨w.heap.size, by rw [n3], hc.size, by rw [n1, n2]; exact hB⟩, trivial, fun _ => ⟨w.heap.size, rfl, Nat.le_refl _, hB.lt⟩⟩
/-- A block of a type. -/
theorem G_alloc {wr : World} {t : TypeId} {n : Nat} (nw : Nw) (hB : allocB P t n = true) (hN : Nat.blt d N = true) (hnw : nw.e = t ∧ nw.cs = (zeroOf P t).toList ∧ nw.val = fun g => .pointer (some ⟨g, 0, none⟩))
    (h : WG P ops N (Ext wr) Q tl (d :: FS) Fs ((d, .inr (uNw wr.heap.size nw)) :: K) rest) : WG P ops N (Ext wr) Q tl FS Fs K (⟨some d, .alloc t, ty, pos, af, none⟩ :: rest) := by
  refine wkG_step (F := fun _ _ => True) (f := true) (R := .inr (uNw wr.heap.size nw)) rfl stabF_true (fun a w hc hk _ => ?_) (wkG_true (by simpa using h))
  rw [if_pos (by rfl)]
  unfold gives
  rw [run_alloc hB]
  have hBk : Blk (w.alloc (.cells (zeroOf P t) t)) w.heap.size t (zeroOf P t).toList := by
    unfold Blk
    rw [Array.toArray_toList]
    exact heap_alloc_new w _
  obtain ⟨n1, n2, n3⟩ := hnw
  exact ⟨new_ext w _, ⟨w.heap.size, by rw [n3], hc.size, by rw [n1, n2]; exact hBk⟩, trivial, fun _ => ⟨w.heap.size, rfl, Nat.le_refl _, hBk.lt⟩⟩
/-- An empty slice by literal. -/
theorem G_build0 {wr : World} {t e : TypeId} {k : Nat} (nw : Nw) (hk : Nat.blt 0 k = true) (hB : appB P t e k = true) (hN : Nat.blt d N = true) (hnw : nw.e = e ∧ nw.cs = [] ∧ nw.val = fun g => .slice (some ⟨g, 0, none⟩) 0 0)
    (h : WG P ops N (Ext wr) Q tl (d :: FS) Fs ((d, .inr (uNw wr.heap.size nw)) :: K) rest) : WG P ops N (Ext wr) Q tl FS Fs K (⟨some d, .buildSlice t 0 #[], ty, pos, af, none⟩ :: rest) := by
  refine wkG_step (F := fun _ _ => True) (f := true) (R := .inr (uNw wr.heap.size nw)) rfl stabF_true (fun a w hc hk' _ => ?_) (wkG_true (by simpa using h))
  rw [if_pos (by rfl)]
  have hr := Go.Proofs.Ytanlaggnhocjhaa.run_build (P := P) (d := d) (ty := ty) (pos := pos) (af := af) (g := none) (parts := #[]) (xs := []) (ρ := a.eval) (w := w) (len := 0) (Nat.le_of_ble_eq_true hk) hB rfl rfl (by omega) (fun v hv => by cases hv)
  unfold gives
  rw [hr]
  have hBk : Blk (w.alloc (.cells (([] : List Operand).map a.eval |>.flatMap fun v => v.cells.toList).toArray e)) w.heap.size e [] := heap_alloc_new w _
  obtain ⟨n1, n2, n3⟩ := hnw
  exact ⟨new_ext w _, ⟨w.heap.size, by rw [n3], hc.size, by rw [n1, n2]; exact hBk⟩, trivial, fun _ => ⟨w.heap.size, rfl, Nat.le_refl _, hBk.lt⟩⟩
/-- A struct by literal of values that are known later. -/
def FBuild (P : Program) (t : TypeId) (parts : Array (Nat × Operand)) (d : Nat) : Act → World → Prop := fun a _ => ∃ cs, P.built t (parts.toList.map fun x => (x.1, a.eval x.2)) = some cs ∧ a.tmps[d]? = some (.agg cs)
theorem G_bagg {t : TypeId} {parts : Array (Nat × Operand)} (hN : Nat.blt d N = true) (hself : ∀ x ∈ parts, x.2 ≠ .tmp d) (hbt : ∀ (a : Act) (w : World), C w → (∀ x ∈ parts, ∀ p, kn K x.2 = some p → p.ok (a.eval x.2) w) → ∃ cs, P.built t (parts.toList.map fun x => (x.1, a.eval x.2)) = some cs)
    (h : WG P ops N C Q tl FS (FBuild P t parts d :: Fs) ((d, .inr uAny) :: K) rest) : WG P ops N C Q tl FS Fs K (⟨some d, .build t parts, ty, pos, af, none⟩ :: rest) := by
  have hmem : ∀ x ∈ parts, x.2 ∈ (Op.build t parts).operands := fun x hx => by
    simp only [Op.operands]
    simpa using ⟨x.1, by simpa using hx⟩
  have heval : ∀ (a : Act) (e : Nat) (v : Value), (∀ x ∈ parts, x.2 ≠ .tmp e) → (parts.toList.map fun x => (x.1, (a.put (some e) v).eval x.2)) = parts.toList.map fun x => (x.1, a.eval x.2) := fun a e v hne => by
    refine List.map_congr_left fun x hx => ?_
    have := hne x (Array.mem_toList_iff.1 hx)
    congr 1
    cases hx2 : x.2 with
    | tmp t' =>
      have hte : e ≠ t' := fun h => this (by rw [hx2, h])
      simp [Act.eval, Act.put, Array.getElem?_setIfInBounds, hte]
    | const v => rfl
    | global g => rfl
    | func f => rfl
  refine wkG_step (F := FBuild P t parts d) (f := false) (R := .inr uAny) rfl (fun a w e v w' hne hlk ⟨cs, h1, h2⟩ _ => ?_) (fun a w hc hk hsz => ?_) (by simpa using h)
  · have hne' : e ≠ d := fun h => hne (by simp [h])
    refine ⟨cs, ?_, by simp [Act.put, Array.getElem?_setIfInBounds, hne', h2]⟩
    rw [heval a e v fun x hx hxe => hlk (List.mem_append_left _ (List.mem_filterMap.2 ⟨.tmp e, by rw [Array.mem_toList_iff, ← hxe]; exact hmem x hx, rfl⟩))]
    exact h1
  · rw [if_pos (by rfl)]
    obtain ⟨cs, hcs⟩ := hbt a w hc fun x hx p hp => kn_ok (ops := ops) (op := .build t parts) (hmem x hx) hp hk
    have hr := Go.run_build (P := P) w t (parts.map fun x => (x.1, a.eval x.2)) cs (by rw [Array.toList_map]; exact hcs)
    have hop : (execOp a.eval ⟨some d, .build t parts, ty, pos, af, none⟩).run P w = .ok (.value (.agg cs)) w := by
      simp only [execOp, Sem.run_bind]
      rw [show (parts.map fun (i, x) => (i, a.eval x)) = parts.map fun x => (x.1, a.eval x.2) from rfl, hr]
      rfl
    unfold gives
    rw [hop]
    obtain ⟨d', hd', hdl⟩ := hsz
    have : d' = d := by simpa using hd'.symm
    subst this
    refine ⟨Ext.refl _, trivial, ⟨cs, ?_, by simp [Act.put, Array.getElem?_setIfInBounds, hdl]⟩, fun h => by cases h⟩
    rw [heval a d' _ hself]
    exact hcs
/-- A slice of one element, whose value is known later. -/
def FOne (e : TypeId) (s d : Nat) : Act → World → Prop := fun a w => ∃ u g, a.tmps[s]? = some u ∧ a.tmps[d]? = some (.slice (some ⟨g, 0, none⟩) 1 1) ∧ Blk w g e u.cells.toList
theorem G_one {t e : TypeId} {s : Nat} {U : UR} (hB : appB P t e 1 = true) (hN : Nat.blt d N = true) (hne : Nat.beq s d = false) (hx : kn K (.tmp s) = some (.inr U)) (hU : ∀ v w, U.R v w → v.cells.size = 1)
    (h : WG P ops N C Q tl FS (FOne e s d :: Fs) ((d, .inr uAny) :: K) rest) : WG P ops N C Q tl FS Fs K (⟨some d, .buildSlice t 1 #[(0, .tmp s)], ty, pos, af, none⟩ :: rest) := by
  have hsd : s ≠ d := fun e => by subst e; rw [Nat.beq_refl] at hne; cases hne
  refine wkG_step (F := FOne e s d) (f := false) (R := .inr uAny) rfl (fun a w f v w' hnf hlk ⟨u, g, h1, h2, h3⟩ he => ?_) (fun a w hc hk hsz => ?_) (by simpa using h)
  · have h4 : f ≠ d := fun h => hnf (by simp [h])
    have h5 : f ≠ s := fun h => hlk (List.mem_append_left _ (List.mem_filterMap.2 ⟨.tmp s, by simp [Op.operands], by rw [h]⟩))
    exact ⟨u, g, by simp [Act.put, Array.getElem?_setIfInBounds, h5, h1], by simp [Act.put, Array.getElem?_setIfInBounds, h4, h2], h3.ext he⟩
  · rw [if_pos (by rfl)]
    have hmem : (.tmp s : Operand) ∈ (Op.buildSlice t 1 #[(0, .tmp s)]).operands := by simp [Op.operands]
    have hok : U.R (a.eval (.tmp s)) w := kn_ok (ops := ops) (op := .buildSlice t 1 #[(0, .tmp s)]) hmem hx hk
    obtain ⟨u, hu, _⟩ := hk s (List.mem_append_left _ (List.mem_filterMap.2 ⟨.tmp s, by simpa using hmem, rfl⟩)) _ hx
    have hev : a.eval (.tmp s) = u := by simp [Act.eval, hu]
    have hr := Go.Proofs.Ytanlaggnhocjhaa.run_build (P := P) (d := d) (ty := ty) (pos := pos) (af := af) (g := none) (t := t) (e := e) (len := 1) (k := 1) (parts := #[(0, .tmp s)]) (xs := [.tmp s]) (ρ := a.eval) (w := w) (by omega) hB rfl rfl (by omega) (fun v hv => by simp at hv; subst hv; exact hU _ _ hok)
    unfold gives
    rw [hr]
    obtain ⟨d', hd', hdl⟩ := hsz
    have : d' = d := by simpa using hd'.symm
    subst this
    refine ⟨new_ext w _, trivial, ⟨u, w.heap.size, by simp [Act.put, Array.getElem?_setIfInBounds, Ne.symm hsd, hu], by simp [Act.put, Array.getElem?_setIfInBounds, hdl], ?_⟩, fun h => by cases h⟩
    have e1 : (([.tmp s] : List Operand).map a.eval |>.flatMap fun v => v.cells.toList) = u.cells.toList := by simp [hev]
    rw [e1]
    exact heap_alloc_new w _
/-- The region. -/
theorem H_drawG {id : Nat} {l : List Oper} (Λ H T : List Nat) (hm : P.follows .mixedOrders = true) (hB : drawB l.toArray N Λ H T = true) (hC : UpC C) (hQ : ∀ c a w d v, Q (.panic c) (Act.put a (some d) v) w → Q (.panic c) a w)
    (h : LateW P l.toArray N C (fun K1 => WG P l.toArray N C Q (pickL l T) [] [] K1 (pickL l H)) K (pickL l Λ)) : Hc P N K C (.region id l.toArray true) Q := .of fun a w hst => by
  have hb : ∀ i ∈ Λ ++ (H ++ T), i < l.length := fun i hi => by
    simp only [drawB, Bool.and_eq_true] at hB
    simpa using List.all_eq_true.1 hB.2 i hi
  exact region_drawG Λ H T _ _ _ hm hB (pickL_map fun i hi => hb i (by simp [hi])) (pickL_map fun i hi => hb i (by simp [hi])) (pickL_map fun i hi => hb i (by simp [hi])) hQ hC h hst
end
attribute [irreducible] SqG
end Go.Proofs.Ytanlaggnhocjhaa

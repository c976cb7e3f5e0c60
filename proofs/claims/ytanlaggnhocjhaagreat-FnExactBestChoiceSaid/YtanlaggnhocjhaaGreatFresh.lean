/-
  Regions that draw their order and make several new slices: the new blocks differ.
-/
import Derived.Test.YtanlaggnhocjhaaGreatBase
namespace Go.Proofs.YtanlaggnhocjhaaGreat
set_option linter.unusedSimpArgs false
set_option linter.unusedVariables false
open Go.RowKit

def vblk : Value → Option Nat
  | .slice (some a) _ _ => some a.block
  | .pointer (some a) => some a.block
  | _ => none
def DisS (FS : List Nat) (a : Act) : Prop := ∀ s ∈ FS, ∀ t ∈ FS, s ≠ t → ∀ u v, a.tmps[s]? = some u → a.tmps[t]? = some v → vblk u ≠ vblk v
def EqS (CS : List (Nat × Nat)) (a : Act) : Prop := ∀ x ∈ CS, a.tmps[x.1]? = a.tmps[x.2]?
def ObF (P : Program) (ops : Array Oper) (C : World → Prop) (K : List (Nat × Pr)) (o : Oper) (R : Pr) (fr : Bool) (cp : Option Nat) : Prop :=
  ∀ (a : Act) (w : World), C w → (∀ t ∈ o.looksAt ops, ∀ p, lookK K t = some p → okAt p a t w) →
    if Region.wanted o (yielded ops a.tmps) = true then gives P o a w (fun v w' => Ext w w' ∧ R.ok v w' ∧ (fr = true → ∃ g, vblk v = some g ∧ w.heap.size ≤ g ∧ g < w'.heap.size) ∧ ∀ s, cp = some s → a.tmps[s]? = some v) else R.ok undef w ∧ fr = false ∧ cp = none
theorem ObF.of {P : Program} {ops : Array Oper} {C : World → Prop} {K : List (Nat × Pr)} {o : Oper} {R : Pr} (h : Ob P ops C K o R) : ObF P ops C K o R false none := fun a w hc hl => by
  have := h a w hc hl
  split
  · rename_i hw
    rw [if_pos hw] at this
    unfold gives at this ⊢
    generalize (execOp a.eval o).run P w = r at *
    cases r with
    | ok n w' =>
      cases n <;> simp only at this ⊢
      case value u => exact ⟨this.1, this.2, (fun h => by cases h), fun _ h => by cases h⟩
      case skip => exact ⟨this.1, this.2, (fun h => by cases h), fun _ h => by cases h⟩
      case enter f args => exact this.mono fun e w'' ⟨v, he, hv⟩ => ⟨v, he, hv.1, hv.2, (fun h => by cases h), fun _ h => by cases h⟩
    | halt x w' => exact this
  · rename_i hw
    rw [if_neg hw] at this
    exact ⟨this, rfl, rfl⟩
theorem ObF.congr {P : Program} {ops : Array Oper} {C : World → Prop} {K K' : List (Nat × Pr)} {o : Oper} {R : Pr} {fr : Bool} {cp : Option Nat} (hK : ∀ t, lookK K t = lookK K' t) (h : ObF P ops C K o R fr cp) : ObF P ops C K' o R fr cp :=
  fun a w hc hl => h a w hc fun t ht p hp => hl t ht p (by rw [← hK]; exact hp)
def newFS : List Oper → List Bool → List Nat
  | o :: l, f :: fs => (if f then [o.dst.getD 0] else []) ++ newFS l fs
  | _, _ => []
theorem newFS_mem : ∀ {l : List Oper} {fs : List Bool} {s : Nat}, s ∈ newFS l fs → ∃ (i : Nat) (o : Oper), l[i]? = some o ∧ fs[i]? = some true ∧ s = o.dst.getD 0
  | o :: l, f :: fs, s, h => by
    simp only [newFS, List.mem_append] at h
    rcases h with h | h
    · cases f with
      | true => simp at h; exact ⟨0, o, rfl, rfl, h⟩
      | false => simp at h
    · obtain ⟨i, o', h1, h2, h3⟩ := newFS_mem h
      exact ⟨i + 1, o', h1, h2, h3⟩
  | [], _, s, h => by simp [newFS] at h
  | _ :: _, [], s, h => by simp [newFS] at h
def cpL (d : Nat) : Option Nat → List (Nat × Nat) | some s => [(d, s)] | none => []
def newCS : List Oper → List (Option Nat) → List (Nat × Nat)
  | o :: l, c :: cs => cpL (o.dst.getD 0) c ++ newCS l cs
  | _, _ => []
theorem newCS_mem : ∀ {l : List Oper} {cs : List (Option Nat)} {x : Nat × Nat}, x ∈ newCS l cs → ∃ (i : Nat) (o : Oper), l[i]? = some o ∧ cs[i]? = some (some x.2) ∧ x.1 = o.dst.getD 0
  | o :: l, c :: cs, x, h => by
    simp only [newCS, List.mem_append] at h
    rcases h with h | h
    · cases c with
      | some s => simp [cpL] at h; subst h; exact ⟨0, o, rfl, rfl, rfl⟩
      | none => simp [cpL] at h
    · obtain ⟨i, o', h1, h2, h3⟩ := newCS_mem h
      exact ⟨i + 1, o', h1, h2, h3⟩
  | [], _, x, h => by simp [newCS] at h
  | _ :: _, [], x, h => by simp [newCS] at h

section
variable {P : Program} {ops : Array Oper} {C : World → Prop} {Q : Exit → Act → World → Prop} {N : Nat} {K0 : List (Nat × Pr)}
structure InvF (ops : Array Oper) (m : Nat) (fs : List Bool) (cs : List (Option Nat)) (done : Nat → Prop) (a : Act) (w : World) : Prop where
  cpy : ∀ i oi d s, i < m → done i → ops[i]? = some oi → oi.dst = some d → cs[i]? = some (some s) → a.tmps[d]? = a.tmps[s]?
  bnd : ∀ i oi d, i < m → done i → ops[i]? = some oi → oi.dst = some d → fs[i]? = some true → ∃ v g, a.tmps[d]? = some v ∧ vblk v = some g ∧ g < w.heap.size
  dis : ∀ i j oi oj d e u v, i < m → j < m → i ≠ j → done i → done j → ops[i]? = some oi → ops[j]? = some oj → oi.dst = some d → oj.dst = some e → fs[i]? = some true → fs[j]? = some true → a.tmps[d]? = some u → a.tmps[e]? = some v → vblk u ≠ vblk v

theorem obF_step {a : Act} {w : World} {o : Oper} {K : List (Nat × Pr)} {R : Pr} {fr : Bool} {cp : Option Nat} {M : Act → World → Prop} (hob : ObF P ops C K o R fr cp) (hc : C w) (hlk : ∀ t ∈ o.looksAt ops, ∀ p, lookK K t = some p → okAt p a t w)
    (hN : ∀ v w', Ext w w' → R.ok v w' → (fr = true → ∃ g, vblk v = some g ∧ w.heap.size ≤ g ∧ g < w'.heap.size) → (∀ s, cp = some s → a.tmps[s]? = some v) → M (a.put o.dst v) w') : if Region.wanted o (yielded ops a.tmps) = true then o.wp P a w M Q ∨ (o.asks P a w ∧ LetsOut Q) else M (a.put o.dst undef) w := by
  have h1 := hob a w hc hlk
  split
  · rename_i hw
    rw [if_pos hw] at h1
    exact .inl (h1.wp fun v w' ⟨he, hv, hf, hcp⟩ => hN v w' he hv hf hcp)
  · rename_i hw
    rw [if_neg hw] at h1
    exact hN undef w (Ext.refl _) h1.1 (fun h => by rw [h1.2.1] at h; cases h) (fun s h => by rw [h1.2.2] at h; cases h)

theorem region_drawF {id : Nat} {l tail : List Oper} (hm : P.follows .mixedOrders = true) (hB : headB .any (l ++ tail).toArray l.length N = true) (hT : tailB .any (l ++ tail).toArray l.length = true)
    (hC : UpC C) {Rs : List Pr} {fs : List Bool} {cs : List (Option Nat)} (hRl : Rs.length = l.length) (hfl : fs.length = l.length)
    (hF : ∀ a w, St N ((zipK l Rs).reverse ++ K0) C a w → DisS (newFS l fs) a → EqS (newCS l cs) a → wpList P (l ++ tail).toArray Q tail a w)
    (hobs : ∀ i o, l[i]? = some o → ∃ R f c, Rs[i]? = some R ∧ fs[i]? = some f ∧ cs[i]? = some c ∧ (∀ s, c = some s → s ∈ o.looksAt (l ++ tail).toArray) ∧ ObF P (l ++ tail).toArray C (((zipK l Rs).take i).reverse ++ K0) o R f c)
    {a0 : Act} {w : World} (hst : St N K0 C a0 w) : (Code.region id (l ++ tail).toArray true).wp P Q a0 w := by
  generalize hops' : (l ++ tail).toArray = ops at *
  have hops : ops.toList = l ++ tail := by rw [← hops']
  clear hops'
  refine wp_region_any hm ?_
  have hsize : ops.size = l.length + tail.length := by
    rw [← Array.length_toList, hops, List.length_append]
  have hl : ∀ j, j < l.length → l[j]? = ops[j]? := fun j hj => by
    rw [← Array.getElem?_toList, hops, List.getElem?_append_left hj]
  have hall := all_head hB
  simp only [tailB, Bool.and_eq_true, decide_eq_true_eq, Bool.or_eq_true] at hT
  obtain ⟨⟨hle, hwait⟩, hseq⟩ := hT
  have key : ∀ (f : Nat) (listed : Array Bool) (a : Act) (w : World), HeadInv .any ops l.length listed → unl listed l.length = f → Inv ops C K0 l.length N Rs (fun j => listed.getD j false = true) a w → InvF ops l.length fs cs (fun j => listed.getD j false = true) a w →
      wpAny P .any ops Q (f + tail.length) listed a w := by
    intro f
    induction f with
    | zero =>
      intro listed a w hinv hu hI hJ
      have hlist := unl_zero _ hu
      have hlisted : listed = headArr l.length ops.size := by
        apply Array.ext_getElem?
        intro i
        by_cases hi : i < ops.size
        · by_cases hil : i < l.length
          · have h1 := hlist i hil
            have : i < listed.size := by rw [hinv.size]; exact hi
            simp [this] at h1
            simp [headArr, List.getElem?_append, hil, this, h1]
          · have h1 := hinv.tail i (by omega) hi
            have : i < listed.size := by rw [hinv.size]; exact hi
            simp [this] at h1
            simp [headArr, List.getElem?_append, hil, this, h1, List.getElem?_replicate]
            omega
        · rw [Array.getElem?_eq_none (by rw [hinv.size]; omega), Array.getElem?_eq_none (by simp [headArr]; omega)]
      have hdone : ∀ j, j < l.length → listed.getD j false = true := fun j hj => getD_true_of_false (by rw [hinv.size]; omega) (hlist j hj)
      have hdis : DisS (newFS l fs) a := fun s hs t ht hne u v hu hv => by
        obtain ⟨i, oi, hi, hfi, rfl⟩ := newFS_mem hs
        obtain ⟨j, oj, hj, hfj, rfl⟩ := newFS_mem ht
        have hil := (List.getElem?_eq_some_iff.1 hi).1
        have hjl := (List.getElem?_eq_some_iff.1 hj).1
        have hoi : ops[i]? = some oi := by rw [← hl i hil]; exact hi
        have hoj : ops[j]? = some oj := by rw [← hl j hjl]; exact hj
        obtain ⟨d, hd, _⟩ := (hall i oi hil hoi).dst
        obtain ⟨e, he, _⟩ := (hall j oj hjl hoj).dst
        have hij : i ≠ j := fun h => by
          subst h
          have : oi = oj := Option.some.inj (hoi.symm.trans hoj)
          subst this
          exact hne rfl
        exact hJ.dis i j oi oj d e u v hil hjl hij (hdone i hil) (hdone j hjl) hoi hoj hd he hfi hfj (by simpa [hd] using hu) (by simpa [he] using hv)
      have hst' := hI.fin_ hl rfl hRl hall hdone
      have hcpy : EqS (newCS l cs) a := fun x hx => by
        obtain ⟨i, oi, hi, hci, e1⟩ := newCS_mem hx
        have hil := (List.getElem?_eq_some_iff.1 hi).1
        have hoi : ops[i]? = some oi := by rw [← hl i hil]; exact hi
        obtain ⟨d, hd, _⟩ := (hall i oi hil hoi).dst
        rw [e1, hd]
        exact hJ.cpy i oi d x.2 hil (hdone i hil) hoi hd hci
      rw [hlisted, Nat.zero_add]
      refine wpAny_of_seq tail l.length _ a w (fun j => ?_) (by rw [← show ops.size - l.length = tail.length by omega]; exact hseq) ?_
      · rw [← Array.getElem?_toList, hops, List.getElem?_append_right (by omega)]
        simp
      · exact hF a w hst' hdis hcpy
    | succ f ih =>
      intro listed a w hinv hu hI hJ
      obtain ⟨i0, hi0, hun0, hbefore⟩ := unl_pos l.length (listed := listed) (by omega)
      have hready : i0 ∈ Region.ready .any ops listed := by
        obtain ⟨o, ho, hH⟩ := headB_spec hB hi0
        exact mem_ready.2 ⟨hun0, o, ho, fun e he hb => by
          have hlt := hH.back e he hb
          exact getD_true_of_false (by rw [hinv.size]; omega) (hbefore e.on hlt)⟩
      rw [show f + 1 + tail.length = (f + tail.length) + 1 by omega]
      refine ⟨fun h0 => (by rw [h0] at hready; cases hready), fun i hi => ?_⟩
      have hil : i < l.length := by
        obtain ⟨_, oi, hoi, _⟩ := mem_ready.1 hi
        have hisz : i < ops.size := (Array.getElem?_eq_some_iff.1 hoi).1
        rcases Nat.lt_or_ge i l.length with h | h
        · exact h
        · rcases hwait with h' | ⟨hs, hc⟩
          · omega
          · exact absurd hi (tail_waits hs hc (by omega) hinv _ i0 rfl hi0 hun0 i h)
      obtain ⟨hiun, oi, hoi, hwaits⟩ := mem_ready.1 hi
      have hH := hall i oi hil hoi
      obtain ⟨d, hd, hdl, _⟩ := hH.dst
      obtain ⟨R, fr, cp, hR, hfr, hcp, hlook, hob⟩ := hobs i oi (by rw [hl i hil]; exact hoi)
      have hdist := distinct hB hil hoi hd
      unfold wpOp
      simp only [hoi]
      refine obF_step hob hI.cls (hI.looks hl rfl hRl hil hH hall fun j hj => ?_) fun v w' he hv hfresh hcopy => ?_
      · obtain ⟨o', ho', e, hem, hb, hon⟩ := Region.waitsFor_spec hj
        have : o' = oi := Option.some.inj (ho'.symm.trans hoi)
        subst this
        rw [← hon]
        exact hwaits e hem hb
      · have hback : ∀ j, (listed.setIfInBounds i true).getD j false = true → j = i ∨ listed.getD j false = true := fun j hdone => by
          by_cases e : j = i
          · exact .inl e
          · rw [getD_set_ne false (Ne.symm e)] at hdone
            exact .inr hdone
        have hslot : ∀ (j : Nat) (oj : Oper) (e : Nat), j < l.length → j ≠ i → ops[j]? = some oj → oj.dst = some e → (a.put oi.dst v).tmps[e]? = a.tmps[e]? := fun j oj e hj hne hoj hej => by
          rw [hd]
          have : d ≠ e := fun h => hdist j oj hj hne hoj (h ▸ hej)
          simp [Act.put, Array.getElem?_setIfInBounds, this]
        have hmine : (a.put oi.dst v).tmps[d]? = some v := by
          rw [hd]
          have : d < a.tmps.size := by rw [hI.size]; exact hdl
          simp [Act.put, Array.getElem?_setIfInBounds, this]
        have hsame : ∀ (oi' : Oper) (d' : Nat), ops[i]? = some oi' → oi'.dst = some d' → d' = d := fun oi' d' h1 h2 => by
          have : oi' = oi := Option.some.inj (h1.symm.trans hoi)
          subst this
          exact Option.some.inj (h2.symm.trans hd)
        have hfrT : fs[i]? = some true → fr = true := fun h => by rw [hfr] at h; injection h
        refine ih _ _ _ (hinv.set hi hil) ?_ ?_ ?_
        · have := unl_set hiun l.length
          rw [if_pos hil] at this
          omega
        · have hstep := hI.step hC he hil hoi hd hdl hR hv hdist
          refine ⟨hstep.cls, hstep.size, hstep.defers, hstep.rest, fun j oj dj Rj hj hdone hoj hdj hRj => hstep.has j oj dj Rj hj ?_ hoj hdj hRj⟩
          rcases hback j hdone with e | e
          · exact .inr e
          · exact .inl e
        · refine ⟨fun j oj dj s hj hdone hoj hdj hcj => ?_, fun j oj dj hj hdone hoj hdj hfj => ?_, fun j k oj ok dj dk u x hj hk hjk hdj hdk hoj hok hej hek hfj hfk hu' hx => ?_⟩
          · have hlk : s ∈ oj.looksAt ops := by
              obtain ⟨_, _, c', _, _, hc', hlook', _⟩ := hobs j oj (by rw [hl j hj]; exact hoj)
              rw [hcj] at hc'
              injection hc' with hc'
              exact hlook' s hc'.symm
            have hlj := (hall j oj hj hoj).looks s hlk
            have hkeep : d ≠ s → (a.put oi.dst v).tmps[s]? = a.tmps[s]? := fun hne => by
              rw [hd]
              simp [Act.put, Array.getElem?_setIfInBounds, hne]
            by_cases e : j = i
            · subst e
              have hdd := hsame oj dj hoj hdj
              subst hdd
              have hne : dj ≠ s := fun h => by
                have := (hlj.2 j oj hj hoj (h ▸ hdj)).1
                omega
              rw [hmine, hkeep hne]
              rw [hcj] at hcp
              injection hcp with hcp
              exact (hcopy s hcp.symm).symm
            · have hdn := (hback j hdone).resolve_left e
              have hne : d ≠ s := fun h => by
                have hw := hlj.2 i oi hil hoi (h ▸ hd)
                obtain ⟨o', ho', e', hem, hb, hon⟩ := Region.waitsFor_spec hw.2
                have : o' = oj := Option.some.inj (ho'.symm.trans hoj)
                subst this
                have hcl := hinv.closed j o' hoj hdn e' hem hb
                rw [hon] at hcl
                have hf := getD_both hiun
                rw [hf] at hcl
                cases hcl
              rw [hslot j oj dj hj e hoj hdj, hkeep hne]
              exact hJ.cpy j oj dj s hj hdn hoj hdj hcj
          · by_cases e : j = i
            · subst e
              have hdd := hsame oj dj hoj hdj
              subst hdd
              obtain ⟨g, hg, _, hg2⟩ := hfresh (hfrT hfj)
              exact ⟨v, g, hmine, hg, hg2⟩
            · obtain ⟨u, g, h1, h2, h3⟩ := hJ.bnd j oj dj hj ((hback j hdone).resolve_left e) hoj hdj hfj
              exact ⟨u, g, by rw [hslot j oj dj hj e hoj hdj]; exact h1, h2, Nat.lt_of_lt_of_le h3 he.size⟩
          · by_cases ej : j = i
            · subst ej
              have hdd := hsame oj dj hoj hej
              subst hdd
              rw [hmine] at hu'
              injection hu' with hu'
              subst hu'
              rw [hslot k ok dk hk (Ne.symm hjk) hok hek] at hx
              obtain ⟨g, hg, hg1, _⟩ := hfresh (hfrT hfj)
              obtain ⟨y, g', h1, h2, h3⟩ := hJ.bnd k ok dk hk ((hback k hdk).resolve_left (Ne.symm hjk)) hok hek hfk
              have hyx : y = x := Option.some.inj (h1.symm.trans hx)
              subst hyx
              rw [hg, h2]
              intro h
              injection h with h
              omega
            · by_cases ek : k = i
              · subst ek
                have hdd := hsame ok dk hok hek
                subst hdd
                rw [hmine] at hx
                injection hx with hx
                subst hx
                rw [hslot j oj dj hj hjk hoj hej] at hu'
                obtain ⟨g, hg, hg1, _⟩ := hfresh (hfrT hfk)
                obtain ⟨y, g', h1, h2, h3⟩ := hJ.bnd j oj dj hj ((hback j hdj).resolve_left hjk) hoj hej hfj
                have hyu : y = u := Option.some.inj (h1.symm.trans hu')
                subst hyu
                rw [hg, h2]
                intro h
                injection h with h
                omega
              · rw [hslot j oj dj hj ej hoj hej] at hu'
                rw [hslot k ok dk hk ek hok hek] at hx
                exact hJ.dis j k oj ok dj dk u x hj hk hjk ((hback j hdj).resolve_left ej) ((hback k hdk).resolve_left ek) hoj hok hej hek hfj hfk hu' hx
  have hdrew : Ext w w.drew := (Ext.refl w).drew
  have hstart := key (unl (Array.replicate ops.size false) l.length) (Array.replicate ops.size false) a0 w.drew
    ⟨by simp, (fun j oj _ h => by rw [getD_replicate_false] at h; cases h), (fun t _ ht => by simp [ht])⟩ rfl
    ⟨hC _ _ hst.cls hdrew, hst.size, hst.defers, (fun t _ p hp => let ⟨v, hv, hk⟩ := hst.slots t p hp; ⟨v, hv, Pr.up_ok hdrew hk⟩), (fun j oj dj Rj _ h => by rw [getD_replicate_false] at h; cases h)⟩
    ⟨(fun i oi d s _ h => by rw [getD_replicate_false] at h; cases h), (fun i oi d _ h => by rw [getD_replicate_false] at h; cases h), (fun i j oi oj d e u v _ _ _ h => by rw [getD_replicate_false] at h; cases h)⟩
  have hunl : ∀ k, k ≤ ops.size → unl (Array.replicate ops.size false) k = k := by
    intro k
    induction k with
    | zero => intro _; rfl
    | succ k ih =>
      intro hk
      simp only [unl]
      rw [ih (by omega)]
      have : (Array.replicate ops.size false).getD k true = false := by simp [show k < ops.size by omega]
      rw [this]
      simp
  rw [hunl l.length (by omega), ← hsize] at hstart
  exact hstart

/-! ### The walk through such a region -/
theorem EqS.sub {CS CS' : List (Nat × Nat)} {a : Act} (h : EqS CS a) (hs : ∀ s ∈ CS', s ∈ CS) : EqS CS' a := fun s h1 => h s (hs s h1)
theorem DisS.sub {FS FS' : List Nat} {a : Act} (h : DisS FS a) (hs : ∀ s ∈ FS', s ∈ FS) : DisS FS' a := fun s h1 t h2 => h s (hs s h1) t (hs t h2)
@[irreducible] def WkF (P : Program) (ops : Array Oper) (N : Nat) (C : World → Prop) (Q : Exit → Act → World → Prop) (FS : List Nat) (CS : List (Nat × Nat)) (K : List (Nat × Pr)) (l : List Oper) : Prop :=
  ∃ (l1 l2 : List Oper) (Rs : List Pr) (fs : List Bool) (cs : List (Option Nat)), l = l1 ++ l2 ∧ Rs.length = l1.length ∧ fs.length = l1.length ∧
    (∀ a w, St N ((zipK l1 Rs).reverse ++ K) C a w → DisS (newFS l1 fs ++ FS) a → EqS (newCS l1 cs ++ CS) a → wpList P ops Q l2 a w) ∧
    (∀ (i : Nat) (o : Oper), l1[i]? = some o → ∃ R f c, Rs[i]? = some R ∧ fs[i]? = some f ∧ cs[i]? = some c ∧ (∀ s, c = some s → s ∈ o.looksAt ops) ∧ ObF P ops C (((zipK l1 Rs).take i).reverse ++ K) o R f c) ∧
    headB .any ops (ops.size - l2.length) N = true ∧ tailB .any ops (ops.size - l2.length) = true
theorem wkF_step {FS : List Nat} {CS : List (Nat × Nat)} {K : List (Nat × Pr)} {o : Oper} {rest : List Oper} {d : Nat} {R : Pr} {f : Bool} {c : Option Nat} (hd : o.dst = some d) (hob : ObF P ops C K o R f c) (hlk : ∀ s, c = some s → s ∈ o.looksAt ops) (h : WkF P ops N C Q ((if f then [d] else []) ++ FS) (cpL d c ++ CS) ((d, R) :: K) rest) : WkF P ops N C Q FS CS K (o :: rest) := by
  unfold WkF at h ⊢
  obtain ⟨l1, l2, Rs, fs, cs, hl, h1, h2, hF, hall, hB, hT⟩ := h
  have hz : zipK (o :: l1) (R :: Rs) = (d, R) :: zipK l1 Rs := by simp [zipK, hd]
  refine ⟨o :: l1, l2, R :: Rs, f :: fs, c :: cs, by rw [hl]; rfl, by simp [h1], by simp [h2], fun a w hst hdis heq => hF a w (by rw [hz] at hst; simpa using hst) (hdis.sub fun s hs => ?_) (heq.sub fun s hs => ?_), fun i o' hi => ?_, hB, hT⟩
  · simp only [newFS, hd, Option.getD_some]
    simp only [List.mem_append] at hs ⊢
    rcases hs with hs | hs | hs
    · exact .inl (.inr hs)
    · exact .inl (.inl hs)
    · exact .inr hs
  · simp only [newCS, hd, Option.getD_some]
    simp only [List.mem_append] at hs ⊢
    rcases hs with hs | hs | hs
    · exact .inl (.inr hs)
    · exact .inl (.inl hs)
    · exact .inr hs
  · cases i with
    | zero =>
      simp at hi
      subst hi
      exact ⟨R, f, c, rfl, rfl, rfl, hlk, by simpa using hob⟩
    | succ i =>
      obtain ⟨R', f', c', e1, e2, e2', e4, e3⟩ := hall i o' (by simpa using hi)
      exact ⟨R', f', c', by simpa using e1, by simpa using e2, by simpa using e2', e4, by rw [hz]; simpa using e3⟩
theorem wkF_stepper {FS : List Nat} {CS : List (Nat × Nat)} : Stepper P ops C N (WkF P ops N C Q FS CS) where
  step := fun hd _ hob h => wkF_step (c := none) hd (ObF.of hob) (fun _ h => by cases h) (by simpa [cpL] using h)
  congr := by
    intro K K' l hK h
    unfold WkF at h ⊢
    obtain ⟨l1, l2, Rs, fs, cs, hl, h1, h2, hF, hall, hB, hT⟩ := h
    have hap : ∀ (L : List (Nat × Pr)) (t : Nat), lookK (L ++ K) t = lookK (L ++ K') t := fun L t => by rw [lookK_append, lookK_append, hK]
    refine ⟨l1, l2, Rs, fs, cs, hl, h1, h2, fun a w hst hd heq => hF a w (hst.congr fun t => (hap _ t).symm) hd heq, fun i o hi => ?_, hB, hT⟩
    obtain ⟨R, f, c, e1, e2, e2', e4, e3⟩ := hall i o hi
    exact ⟨R, f, c, e1, e2, e2', e4, e3.congr (hap _)⟩
theorem H_drawF {id : Nat} {K : List (Nat × Pr)} {l : List Oper} (hm : P.follows .mixedOrders = true) (hC : UpC C) (h : ∀ wr, C wr → WkF P l.toArray N (fun w => C w ∧ Ext wr w) Q [] [] K l) : Hc P N K C (.region id l.toArray true) Q := .of fun a w hst => by
  have h' := h w hst.cls
  unfold WkF at h'
  obtain ⟨l1, l2, Rs, fs, cs, hl, h1, h2, hF, hall, hB, hT⟩ := h'
  subst hl
  have e : (l1 ++ l2).toArray.size - l2.length = l1.length := by simp
  rw [e] at hB hT
  have hC' : UpC (fun u => C u ∧ Ext w u) := fun u u' ⟨hu, he⟩ k => ⟨hC _ _ hu k, he.trans k⟩
  exact region_drawF hm hB hT hC' h1 h2 (fun a w hst hd heq => hF a w hst (by simpa using hd) (by simpa using heq)) hall ⟨hst.size, hst.defers, hst.slots, hst.cls, Ext.refl _⟩

/-- A slice just made, of n places, in a block born from s0 on. -/
def uMade (s0 : Nat) (e : TypeId) (k n : Nat) : UR := ⟨fun v w => ∃ g cs, v = .slice (some ⟨g, 0, none⟩) n n ∧ s0 ≤ g ∧ Blk w g e cs ∧ cs.length = n * k, fun _ _ _ he ⟨g, cs, h1, h2, h3, h4⟩ => ⟨g, cs, h1, h2, h3.ext he, h4⟩⟩
section
variable {K : List (Nat × Pr)} {rest : List Oper} {d : Nat} {ty : TypeId} {pos : String} {af : Array Edge} {FS : List Nat} {CS : List (Nat × Nat)}
theorem WkF_make {wr : World} {C0 : World → Prop} {t e : TypeId} {k : Nat} {x y : Operand} {n : Int} (hB : makeB P t e k = true) (hN : Nat.blt d N = true)
    (hx : kn K x = some (.inl (.int .i64 n))) (hy : kn K y = some (.inl (.int .i64 n))) (h0 : 0 ≤ n ∧ n * 4096 ≤ 281474976710656)
    (h : WkF P ops N (fun w => C0 w ∧ Ext wr w) Q (d :: FS) CS ((d, .inr (uMade wr.heap.size e k n.toNat)) :: K) rest) :
    WkF P ops N (fun w => C0 w ∧ Ext wr w) Q FS CS K (⟨some d, .makeSlice t x y, ty, pos, af, none⟩ :: rest) := by
  refine wkF_step (f := true) (c := none) rfl (fun a w hc hk => ?_) (fun _ h => by cases h) (by simpa [cpL] using h)
  rw [if_pos (by rfl)]
  simp only [makeB, Bool.and_eq_true] at hB
  obtain ⟨h1, h2⟩ := hB
  split at h1
  case h_2 => cases h1
  rename_i e' hu
  have he := Nat.eq_of_beq_eq_true h1
  subst he
  split at h2
  case h_2 => cases h2
  rename_i i hi
  simp only [Bool.and_eq_true] at h2
  obtain ⟨⟨h3, h4⟩, h5⟩ := h2
  split at h3
  case h_2 => cases h3
  rename_i z hz
  have hkk := Nat.eq_of_beq_eq_true h4
  have hby := Nat.le_of_ble_eq_true h5
  have hzz : zeroOf P e' = z.cells := by simp [zeroOf, hi, hz]
  have hev : ∀ s : Operand, s ∈ (Op.makeSlice t x y).operands → kn K s = some (.inl (.int .i64 n)) → a.eval s = .int .i64 n := fun s hs hks => by
    exact kn_ok (g := none) (p := .inl (.int .i64 n)) hs hks hk
  have hrun := run_make (P := P) w t e' i z hu hi hz .i64 .i64 n n h0.1 (Int.le_refl _) (by
    have : (i.bytes : Int) * n ≤ 4096 * n := Int.mul_le_mul_of_nonneg_right (by omega) h0.1
    omega) (by omega)
  rw [hkk, ← hzz] at hrun
  have hr2 : (execOp a.eval ⟨some d, .makeSlice t x y, ty, pos, af, none⟩).run P w = .ok (.value (.slice (some ⟨w.heap.size, 0, none⟩) n.toNat n.toNat)) (w.alloc (.cells (madeCells (zeroOf P e') (n.toNat * k)) e')) := by
    simp only [execOp, hev x (by simp [Op.operands]) hx, hev y (by simp [Op.operands]) hy, Sem.run_bind, hrun, Result.andThen_ok, Sem.run_pure]
  unfold gives
  rw [hr2]
  have hext := new_ext w (.cells (madeCells (zeroOf P e') (n.toNat * k)) e')
  refine ⟨hext, ⟨w.heap.size, (madeCells (zeroOf P e') (n.toNat * k)).toList, rfl, hc.2.size, ?_, by rw [Array.length_toList, size_madeCells]⟩, (fun _ => ⟨w.heap.size, rfl, Nat.le_refl _, by simp⟩), fun _ h => by cases h⟩
  unfold Blk
  rw [Array.toArray_toList]
  exact heap_alloc_new w _
/-- An assignment that does not wait for the rest: the slot is a copy. -/
theorem WkF_copy {t : Nat} {p : Pr} (hN : Nat.blt d N = true) (hx : lookK K t = some p) (h : WkF P ops N C Q FS ((d, t) :: CS) ((d, p) :: K) rest) : WkF P ops N C Q FS CS K (⟨some d, .assign (.tmp t), ty, pos, af, none⟩ :: rest) := by
  have hmem : t ∈ (⟨some d, .assign (.tmp t), ty, pos, af, none⟩ : Oper).looksAt ops := List.mem_append_left _ (List.mem_filterMap.2 ⟨.tmp t, by simp [Op.operands], rfl⟩)
  refine wkF_step (f := false) (c := some t) (R := p) rfl (fun a w hc hk => ?_) (fun s h => by injection h with h; subst h; exact hmem) (by simpa [cpL] using h)
  rw [if_pos (by rfl)]
  obtain ⟨v, hv, hok⟩ := hk t hmem p hx
  have he : a.eval (.tmp t) = v := by simp [Act.eval, hv]
  have hr : (execOp a.eval ⟨some d, .assign (.tmp t), ty, pos, af, none⟩).run P w = .ok (.value (a.eval (.tmp t))) w := rfl
  unfold gives
  rw [hr, he]
  exact ⟨Ext.refl _, hok, (fun h => by cases h), fun s h => by injection h with h; subst h; exact hv⟩
/-- .. two slices and their copies. -/
theorem WkF_two' {w0 wr : World} {Bs : BL} {F : World → Prop} {s t s' t' : Nat} {e1 e2 : TypeId} {k1 k2 n1 n2 : Nat} (hr : Cls w0 Bs F wr) (hst : s ≠ t) (hs : lookK K s = some (.inr (uMade wr.heap.size e1 k1 n1))) (ht : lookK K t = some (.inr (uMade wr.heap.size e2 k2 n2)))
    (h1 : headB .any ops ops.size N = true) (h2 : tailB .any ops ops.size = true)
    (h : ∀ g1 g2 cs1 cs2, cs1.length = n1 * k1 → cs2.length = n2 * k2 → Sq P ops N (Cls w0 ((some g1, e1, cs1) :: (some g2, e2, cs2) :: Bs) F) Q ((s', .inl (.slice (some ⟨g1, 0, none⟩) n1 n1)) :: (t', .inl (.slice (some ⟨g2, 0, none⟩) n2 n2)) :: K) []) :
    WkF P ops N (fun w => Cls w0 Bs F w ∧ Ext wr w) Q [t, s] [(t', t), (s', s)] K [] := by
  unfold WkF
  refine ⟨[], [], [], [], [], rfl, rfl, rfl, fun a w hst' hd heq => ?_, fun i o hi => by simp at hi, h1, h2⟩
  have hst' : St N K (fun w => Cls w0 Bs F w ∧ Ext wr w) a w := by simpa [zipK] using hst'
  obtain ⟨u, hu, g1, cs1, e1', l1, b1, c1⟩ := hst'.slots s _ hs
  obtain ⟨v, hv, g2, cs2, e2', l2, b2, c2⟩ := hst'.slots t _ ht
  have hes : a.tmps[s']? = some u := (heq (s', s) (by simp [newCS])).trans hu
  have het : a.tmps[t']? = some v := (heq (t', t) (by simp [newCS])).trans hv
  have hne : g1 ≠ g2 := fun e => by
    have := hd s (by simp [newFS]) t (by simp [newFS]) hst u v hu hv
    rw [e1', e2', e] at this
    exact this rfl
  have hsq := h g1 g2 cs1 cs2 c1 c2
  unfold Sq at hsq
  refine hsq a w ⟨hst'.size, hst'.defers, fun r p hp => ?_, ?_⟩
  · by_cases er : s' = r
    · subst er
      rw [lookK_same] at hp
      injection hp with hp
      subst hp
      exact ⟨u, hes, e1'⟩
    · rw [lookK_ne _ er] at hp
      by_cases er2 : t' = r
      · subst er2
        rw [lookK_same] at hp
        injection hp with hp
        subst hp
        exact ⟨v, het, e2'⟩
      · rw [lookK_ne _ er2] at hp
        exact hst'.slots r p hp
  · have hc := hst'.cls.1
    have hlt : ∀ x ∈ Bs.filterMap (fun x => x.1), x < wr.heap.size := fun x hx => by
      obtain ⟨⟨A', t', c'⟩, hy, e⟩ := List.mem_filterMap.1 hx
      have e' : A' = some x := e
      subst e'
      exact (hr.blk _ hy : Blk wr x t' c').lt
    have hk : ((some g1, e1, cs1) :: (some g2, e2, cs2) :: Bs).filterMap (fun x => x.1) = g1 :: g2 :: Bs.filterMap (fun x => x.1) := rfl
    refine ⟨hc.ext, ?_, fun x hx => ?_, fun x hx => ?_, hc.fct⟩
    · rw [hk, List.nodup_cons, List.nodup_cons]
      refine ⟨fun hm => ?_, fun hm => ?_, hc.nd⟩
      · rcases List.mem_cons.1 hm with e | hm
        · exact hne e
        · have := hlt _ hm; omega
      · have := hlt _ hm; omega
    · rw [hk] at hx
      rcases List.mem_cons.1 hx with rfl | hx
      · exact Nat.le_trans hr.ext.size l1
      · rcases List.mem_cons.1 hx with rfl | hx
        · exact Nat.le_trans hr.ext.size l2
        · exact hc.lo x hx
    · rcases List.mem_cons.1 hx with rfl | hx
      · exact b1
      · rcases List.mem_cons.1 hx with rfl | hx
        · exact b2
        · exact hc.blk x hx
/-- Behind the head: the two slices by value. -/
theorem WkF_two {w0 wr : World} {Bs : BL} {F : World → Prop} {s t : Nat} {e1 e2 : TypeId} {k1 k2 n1 n2 : Nat} {l : List Oper} (hr : Cls w0 Bs F wr) (hst : s ≠ t) (hs : lookK K s = some (.inr (uMade wr.heap.size e1 k1 n1))) (ht : lookK K t = some (.inr (uMade wr.heap.size e2 k2 n2)))
    (h1 : headB .any ops (ops.size - l.length) N = true) (h2 : tailB .any ops (ops.size - l.length) = true)
    (h : ∀ g1 g2 cs1 cs2, cs1.length = n1 * k1 → cs2.length = n2 * k2 → Sq P ops N (Cls w0 ((some g1, e1, cs1) :: (some g2, e2, cs2) :: Bs) F) Q ((s, .inl (.slice (some ⟨g1, 0, none⟩) n1 n1)) :: (t, .inl (.slice (some ⟨g2, 0, none⟩) n2 n2)) :: K) l) :
    WkF P ops N (fun w => Cls w0 Bs F w ∧ Ext wr w) Q [t, s] CS K l := by
  unfold WkF
  refine ⟨[], l, [], [], [], rfl, rfl, rfl, fun a w hst' hd heq => ?_, fun i o hi => by simp at hi, h1, h2⟩
  have hst' : St N K (fun w => Cls w0 Bs F w ∧ Ext wr w) a w := by simpa [zipK] using hst'
  obtain ⟨u, hu, g1, cs1, e1', l1, b1, c1⟩ := hst'.slots s _ hs
  obtain ⟨v, hv, g2, cs2, e2', l2, b2, c2⟩ := hst'.slots t _ ht
  have hne : g1 ≠ g2 := fun e => by
    have := hd s (by simp [newFS]) t (by simp [newFS]) hst u v hu hv
    rw [e1', e2', e] at this
    exact this rfl
  have hsq := h g1 g2 cs1 cs2 c1 c2
  unfold Sq at hsq
  refine hsq a w ⟨hst'.size, hst'.defers, fun r p hp => ?_, ?_⟩
  · by_cases er : s = r
    · subst er
      rw [lookK_same] at hp
      injection hp with hp
      subst hp
      exact ⟨u, hu, e1'⟩
    · rw [lookK_ne _ er] at hp
      by_cases er2 : t = r
      · subst er2
        rw [lookK_same] at hp
        injection hp with hp
        subst hp
        exact ⟨v, hv, e2'⟩
      · rw [lookK_ne _ er2] at hp
        exact hst'.slots r p hp
  · have hc := hst'.cls.1
    have hlt : ∀ x ∈ Bs.filterMap (fun x => x.1), x < wr.heap.size := fun x hx => by
      obtain ⟨⟨A', t', c'⟩, hy, e⟩ := List.mem_filterMap.1 hx
      have e' : A' = some x := e
      subst e'
      exact (hr.blk _ hy : Blk wr x t' c').lt
    have hk : ((some g1, e1, cs1) :: (some g2, e2, cs2) :: Bs).filterMap (fun x => x.1) = g1 :: g2 :: Bs.filterMap (fun x => x.1) := rfl
    refine ⟨hc.ext, ?_, fun x hx => ?_, fun x hx => ?_, hc.fct⟩
    · rw [hk, List.nodup_cons, List.nodup_cons]
      refine ⟨fun hm => ?_, fun hm => ?_, hc.nd⟩
      · rcases List.mem_cons.1 hm with e | hm
        · exact hne e
        · have := hlt _ hm; omega
      · have := hlt _ hm; omega
    · rw [hk] at hx
      rcases List.mem_cons.1 hx with rfl | hx
      · exact Nat.le_trans hr.ext.size l1
      · rcases List.mem_cons.1 hx with rfl | hx
        · exact Nat.le_trans hr.ext.size l2
        · exact hc.lo x hx
    · rcases List.mem_cons.1 hx with rfl | hx
      · exact b1
      · rcases List.mem_cons.1 hx with rfl | hx
        · exact b2
        · exact hc.blk x hx
end
end
end Go.Proofs.YtanlaggnhocjhaaGreat

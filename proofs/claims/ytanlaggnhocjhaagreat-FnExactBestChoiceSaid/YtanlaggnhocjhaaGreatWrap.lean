/-
  From what an argument reads as to what the walk wants to know of it.
-/
import Derived.Test.YtanlaggnhocjhaaGreatOwn
import Derived.Test.YtanlaggnhocjhaaGreatRows
import Derived.ProofKit
import Derived.OpenShut
import Derived.Deep.Slices
import Derived.Carry
namespace Go.Proofs.YtanlaggnhocjhaaGreat
set_option linter.unusedSimpArgs false
set_option linter.unusedVariables false
open Go.RowKit Go.ChangeShapes Go.WideShapes Go.ChangeAt Go.Deep

/-- Whatever reads at type t reads as a datum of Φ. -/
def Rd {α : Type} (P : Program) (Φ : Phi α) (t : TypeId) : Prop :=
  ∀ (H : Type) (enc : TypeId × Value → H) (W : World) (fuel : Nat) (cs : List Value) (x : DataW H × List MemPlace), DataW.trod enc P W 0 (fun _ => true) true fuel t cs = some x → ∃ z : α, Φ.φ z cs W

section
variable {P : Program}
theorem Rd.int {t : TypeId} (ht : P.underlying t = some (.int .i64)) : Rd P pI t := fun _ _ _ _ _ _ h => by
  obtain ⟨n, hcs, _⟩ := DataW.trod_int ht h
  exact ⟨n, hcs⟩
theorem addr_none {w : World} {a : Addr} {u : Value} (h : w.cell? a = some u) : a = ⟨a.block, a.off, none⟩ := by
  have := World.cell?_spot h
  obtain ⟨b, o, s⟩ := a
  simp only at this
  subst this
  rfl
theorem choose_list {α : Type} {p : Nat → α → Prop} : ∀ n : Nat, (∀ i, i < n → ∃ z, p i z) → ∃ zs : List α, zs.length = n ∧ ∀ i z, zs[i]? = some z → p i z
  | 0, _ => ⟨[], rfl, fun i z h => by simp at h⟩
  | n + 1, h => by
    obtain ⟨zs, hl, hz⟩ := choose_list n fun i hi => h i (by omega)
    obtain ⟨z, hp⟩ := h n (by omega)
    refine ⟨zs ++ [z], by simp [hl], fun i z' hi => ?_⟩
    by_cases e : i < n
    · rw [List.getElem?_append_left (by omega)] at hi
      exact hz i z' hi
    · have hin : i = n := by
        have := (List.getElem?_eq_some_iff.1 hi).1
        simp [hl] at this
        omega
      subst hin
      rw [List.getElem?_append_right (by omega)] at hi
      simp [hl] at hi
      subst hi
      exact hp
theorem Rd.slice {α : Type} {Φ : Phi α} {t e : TypeId} (ht : P.underlying t = some (.slice e)) (hk : P.cellsOf e = Φ.k) (hpos : 0 < Φ.k) (hr : Rd P Φ e) : Rd P (pS none Φ) t := fun H enc W fuel cs x h => by
  rcases open_slice ht h with ⟨rfl, _⟩ | ⟨a, len, cap, m, n, D, Pl, rfl, _, hl, hm, hmm, _, hi⟩
  · exact ⟨[], _, rfl, none, 0, 0, rfl, rfl, Nat.le_refl _, by simp [maxLen], fun i x hx => by simp at hx⟩
  · have hmc : m = cap := by simpa using hmm
    subst hmc
    obtain ⟨zs, hzl, hz⟩ := choose_list (p := fun i z => ∃ cs', W.cells? 0 (a.add (i * P.cellsOf e)) (P.cellsOf e) = some cs' ∧ Φ.φ z cs' W) len fun i hil => by
      obtain ⟨cs', hc, ht'⟩ := hi i (by omega)
      obtain ⟨z, hφ⟩ := hr _ _ _ _ _ _ ht'
      exact ⟨z, cs', hc, hφ⟩
    refine ⟨zs, _, rfl, some a, len, m, rfl, hzl.symm, hl, hm, fun i z hzi => ?_⟩
    obtain ⟨cs', hc, hφ⟩ := hz i z hzi
    obtain ⟨_, hcl, hat⟩ := World.cells?_some hc
    rw [hk] at hcl hat
    have h0 := hat 0 hpos
    have hlt : 0 < cs'.length := by omega
    rw [List.getElem?_eq_getElem hlt] at h0
    have hb : a = ⟨a.block, a.off, none⟩ := by
      by_cases e0 : i * Φ.k = 0
      · simp only [e0, Addr.add_zero'] at h0
        exact addr_none h0
      · have h1 : 0 < zs.length := by
          have := (List.getElem?_eq_some_iff.1 hzi).1
          omega
        obtain ⟨cs0, hc0, hφ0⟩ := hz 0 (zs[0]) (List.getElem?_eq_getElem h1)
        obtain ⟨_, hcl0, hat0⟩ := World.cells?_some hc0
        rw [hk] at hcl0 hat0
        have h00 := hat0 0 hpos
        have hlt0 : 0 < cs0.length := by omega
        rw [List.getElem?_eq_getElem hlt0] at h00
        simp only [Nat.zero_mul, Addr.add_zero'] at h00
        exact addr_none h00
    refine ⟨a.block, a.off, cs', by rw [← hb], fun j u hu => ?_, hφ, fun t' h => by cases h⟩
    have hj : j < Φ.k := by
      have := (List.getElem?_eq_some_iff.1 hu).1
      omega
    have := hat j hj
    rw [hb, Addr.add_lit, Addr.add_lit, Nat.add_assoc] at this
    rw [this]
    exact hu

/-- The cells of a struct's fields, one behind the other. -/
theorem trod_fields {H : Type} {enc : TypeId × Value → H} {W : World} {t : TypeId} {fs : Array Field} {fuel : Nat} {cs : List Value} {x : DataW H × List MemPlace} (ht : P.underlying t = some (.struct fs))
    (h : DataW.trod enc P W 0 (fun _ => true) true fuel t cs = some x) : cs.length = P.cellsOf t ∧ ∀ (i : Nat) (f : Field), fs[i]? = some f → ∃ n y, DataW.trod enc P W 0 (fun _ => true) true n f.type ((cs.drop f.offset).take (P.cellsOf f.type)) = some y := by
  obtain ⟨xs, n, _, _, hl, hxl, hf⟩ := DataW.trod_struct ht h
  refine ⟨hl, fun i f hfi => ?_⟩
  have hi : i < fs.size := (Array.getElem?_eq_some_iff.1 hfi).1
  have := hf i f hfi
  rw [List.getElem?_eq_getElem (by omega)] at this
  exact ⟨n, _, this⟩

theorem fld {H : Type} {enc : TypeId × Value → H} {W : World} {cs cs' : List Value} {f : Field} {k : Nat}
    (h : ∃ n y, DataW.trod enc P W 0 (fun _ => true) true n f.type ((cs.drop f.offset).take (P.cellsOf f.type)) = some y) (hc : P.cellsOf f.type = k) (hcs : (cs.drop f.offset).take k = cs') :
    ∃ n y, DataW.trod enc P W 0 (fun _ => true) true n f.type cs' = some y := by
  subst hc hcs
  exact h
theorem len1 {α : Type} {cs : List α} (h : cs.length = 1) : ∃ c0, cs = [c0] := by
  match cs, h with
  | [c0], _ => exact ⟨c0, rfl⟩
theorem len2 {α : Type} {cs : List α} (h : cs.length = 2) : ∃ c0 c1, cs = [c0, c1] := by
  match cs, h with
  | [c0, c1], _ => exact ⟨c0, c1, rfl⟩
theorem len3 {α : Type} {cs : List α} (h : cs.length = 3) : ∃ c0 c1 c2, cs = [c0, c1, c2] := by
  match cs, h with
  | [c0, c1, c2], _ => exact ⟨c0, c1, c2, rfl⟩
/-! ### Facts that arguments bring; what the counting of a list gives -/
theorem CT_fact {f : FuncId} {ps : List Pr} {R : Pr} {p : Prop} (hf : ∀ vs w, okAll ps vs w → p) (h : p → CT P f ps R) : CT P f ps R := .of fun w vs hk => (h (hf vs w hk)).out w vs hk
theorem CT_len {f : FuncId} {ps : List Pr} {R : Pr} {α : Type} {e : Option TypeId} {Φ : Phi α} {xs : List α} (h : xs.length ≤ 9223372036854775807 → CT P f (.inr (uS e Φ xs) :: ps) R) : CT P f (.inr (uS e Φ xs) :: ps) R :=
  CT_fact (fun vs w hk => by
    match vs, hk with
    | v :: vs, hk =>
      obtain ⟨A, n, c, hv, hn, hc, hm, _⟩ := (hk.1 : IsS e Φ xs v w)
      simp only [maxLen] at hm
      omega) h
theorem all_step {p : Int → Bool} {i : Int} (h0 : 0 ≤ i) (h : ∀ j : Nat, (j : Int) < i → p j = true) (hi : p i = true) : ∀ j : Nat, (j : Int) < i + 1 → p j = true := fun j hj => by
  by_cases e : (j : Int) = i
  · rw [e]; exact hi
  · exact h j (by omega)
def szN (n : Nat) (l : Int) : Int := if l - n < 0 then -1 else l - n
/-! Arguments -/
variable {H : Type} {enc : TypeId × Value → H} {W : World} {base : Nat} {v : Value} {t : TypeId} {dd : DataW H} {ps : List MemPlace}
theorem arg_int (ht : P.underlying t = some (.int .i64)) (hv : Value.okWide P W .any base t v) (h : DataW.Trod enc P W 0 (fun _ => true) true t v dd ps) : ∃ n, v = .int .i64 n := by
  obtain ⟨n, h1, _⟩ := open_int ht hv h
  exact ⟨n, h1⟩
theorem arg_agg {α : Type} {Φ : Phi α} {fs : Array Field} (ht : P.underlying t = some (.struct fs)) (hr : Rd P Φ t) (hv : Value.okWide P W .any base t v) (h : DataW.Trod enc P W 0 (fun _ => true) true t v dd ps) : ∃ z, IsA Φ z v W := by
  obtain ⟨cs, rfl, _⟩ := okWide_struct ht hv
  obtain ⟨fuel, hf⟩ := h
  obtain ⟨z, hφ⟩ := hr _ _ _ _ _ _ hf
  exact ⟨z, cs.toList, by simp, hφ⟩
theorem arg_slice {α : Type} {Φ : Phi α} {e : TypeId} (ht : P.underlying t = some (.slice e)) (hr : Rd P (pS none Φ) t) (hv : Value.okWide P W .any base t v) (h : DataW.Trod enc P W 0 (fun _ => true) true t v dd ps) : ∃ xs, IsS none Φ xs v W := by
  obtain ⟨a, l, c, rfl⟩ := okWide_slice ht hv
  obtain ⟨fuel, hf⟩ := h
  obtain ⟨xs, v', hcs, hs⟩ := hr _ _ _ _ _ _ hf
  have : v' = .slice a l c := by simpa [Value.cells] using hcs.symm
  subst this
  exact ⟨xs, hs⟩
theorem trod_lt' (h : DataW.Trod enc P W 0 (fun _ => true) true t v dd ps) : ∀ x ∈ ps, x.block < W.heap.size := by
  obtain ⟨m, hm⟩ := h
  exact DataW.trod_lt m _ _ _ hm
theorem own_ : ownKnob Tryz.prog.godebug = none := by kernel_rfl
end
theorem laid_ : laidOutB Tryz.prog = true := by kernel_rfl
end Go.Proofs.YtanlaggnhocjhaaGreat

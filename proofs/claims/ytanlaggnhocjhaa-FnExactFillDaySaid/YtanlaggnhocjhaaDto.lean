/- Depots that a call made: their memory; marked with numbers in order, and read again. -/
import Derived.Test.YtanlaggnhocjhaaDtk
import Derived.Test.YtanlaggnhocjhaaMR
import Derived.Test.YtanlaggnhocjhaaDepM
namespace Go.Proofs.Ytanlaggnhocjhaa
set_option linter.unusedSimpArgs false
set_option linter.unusedVariables false
open Go.RowKit Go.ChangeShapes Go.WideShapes Go.ChangeAt Go.Deep
theorem OS.mono {α : Type} {e : TypeId} {Ψ : Phi α} {xs : List α} {S S' : Nat → Prop} {v : Value} {w : World} (h : OS e Ψ xs S v w) (hS : ∀ b, S b → b < w.heap.size → S' b) : OS e Ψ xs S' v w := by
  obtain ⟨A, n, c, cs, h1, h2, h3, h4, h5, h6, h7, h8, h9⟩ := h
  refine ⟨A, n, c, cs, h1, h2, h3, h4, h5, h6, fun g hg => hS g (h7 g hg) ?_, h8, h9⟩
  subst hg
  exact Blk.lt (h6 : Blk w g e cs)
theorem oR_mono {ls : List (List Int)} {S S' : Nat → Prop} {v : Value} {w : World} (h : oR.R ls S v w) (hS : ∀ b, S b → b < w.heap.size → S' b) : oR.R ls S' v w := by
  obtain ⟨vs, S0, Sr, ⟨h1, h2, h3⟩, h4, h5, h6⟩ := h
  exact ⟨vs, fun b => S0 b ∧ b < w.heap.size, fun i b => Sr i b ∧ b < w.heap.size, ⟨h1.mono fun b hb hl => ⟨hb, hl⟩, h2, fun i hi => (h3 i hi).mono fun b hb hl => ⟨hb, hl⟩⟩, fun b hb => hS b (h4 b hb.1) hb.2, fun i b hb => ⟨hS b (h5 i b hb.1).1 hb.2, fun h0 => (h5 i b hb.1).2 h0.1⟩, fun i j b hij h h' => h6 i j b hij h.1 h'.1⟩
def oDep : Ow Dep := ⟨fun d S v w => ∃ vS vT S1 S2, v = .agg (([vS, vT] : List Value)).toArray ∧ OS 3 pI d.S S1 vS w ∧ oR.R d.T S2 vT w ∧ (∀ b, S1 b → S b) ∧ (∀ b, S2 b → S b) ∧ ∀ b, S1 b → S2 b → False,
  fun d S T v w w' ⟨vS, vT, S1, S2, h1, h2, h3, h4, h5, h6⟩ hk hd => ⟨vS, vT, S1, S2, h1, (oF _ pI flat_I).keep _ _ _ _ _ _ h2 hk (fun b hb ht => hd b (h4 b hb) ht), oR.keep _ _ _ _ _ _ h3 hk (fun b hb ht => hd b (h5 b hb) ht), h4, h5, h6⟩⟩
theorem oDep_isA {d : Dep} {S : Nat → Prop} {v : Value} {w : World} (h : oDep.R d S v w) : (uA bDep d).R v w := by
  obtain ⟨vS, vT, S1, S2, h1, h2, h3, _⟩ := h
  exact ⟨[vS, vT], h1, [vS], _, rfl, ⟨_, rfl, h2.isS⟩, [vT], _, rfl, ⟨_, rfl, oR_isS h3⟩, rfl⟩
theorem oDep_cells {d : Dep} {S : Nat → Prop} {v : Value} {w : World} (h : oDep.R d S v w) : ∃ cs : List Value, v = .agg cs.toArray ∧ cs.length = 2 ∧ ∀ u ∈ cs, u.oneCell' = true := by
  obtain ⟨vS, vT, S1, S2, h1, h2, h3, _⟩ := h
  obtain ⟨vs, S0, Sr, hr, _⟩ := h3
  obtain ⟨A, n, c, cs, ⟨p, e1, _⟩, _⟩ := h2
  obtain ⟨A2, n2, c2, cs2, ⟨p2, e2, _⟩, _⟩ := hr.o
  refine ⟨[vS, vT], h1, rfl, fun u hu => ?_⟩
  simp only [List.mem_cons, List.not_mem_nil, or_false] at hu
  rcases hu with rfl | rfl
  · rw [e1]; rfl
  · rw [e2]; rfl
theorem oDep_nil {s : Nat} {w : World} : (uO s oDep ⟨[], []⟩).R (.agg (([.slice none 0 0, .slice none 0 0] : List Value)).toArray) w := by
  obtain ⟨S2, h2, h3⟩ := nil_oR (s := s) (w := w)
  exact ⟨S2, h2, _, _, fun _ => False, S2, rfl, ⟨none, 0, 0, [], ⟨_, rfl, .inl rfl⟩, rfl, Nat.le_refl _, Nat.zero_le _, by simp, rfl, (fun g e => by cases e), (fun _ => rfl), ls_nil⟩, h3, fun _ h => h.elim, fun _ h => h, fun _ h _ => h.elim⟩
/-- What the memory of one's own gives away. -/
theorem Sep.oDep {w0 w : World} {d : Dep} {vS vT : Value} {vs : List Value} {L0 : List Osl} {s : Nat} (h : Sep w0 (dpL d vS vT vs ++ L0) w) (hl : vs.length = d.T.length) (hs : s ≤ w0.heap.size) : (uO s Go.Proofs.Ytanlaggnhocjhaa.oDep d).R (.agg (([vS, vT] : List Value)).toArray) w := by
  unfold Sep at h
  obtain ⟨Bs, hbl, hc⟩ := h
  have hget : ∀ {j : Nat} {o : Osl}, (dpL d vS vT vs ++ L0)[j]? = some o → ∃ x, Bs[j]? = some x ∧ o.at x w ∧ BlkO w x ∧ ∀ b, x.1 = some b → s ≤ b ∧ b < w.heap.size := fun {j o} ho => by
    have hj : j < Bs.length := by rw [hbl]; exact (List.getElem?_eq_some_iff.1 ho).1
    have hx := List.getElem?_eq_getElem hj
    have hb := hc.blk _ (List.mem_of_getElem? hx)
    refine ⟨_, hx, hc.fct j o _ ho hx, hb, fun b e => ⟨Nat.le_trans hs (hc.lo b (List.mem_filterMap.2 ⟨_, List.mem_of_getElem? hx, e⟩)), ?_⟩⟩
    generalize Bs[j] = x at hb e
    obtain ⟨A, t, cs⟩ := x
    have e : A = some b := e
    subst e
    exact Blk.lt (hb : Blk w b t cs)
  let bk : Nat → Nat → Prop := fun j b => ∃ x, Bs[j]? = some x ∧ x.1 = some b
  have hinj : ∀ {j j' b}, bk j b → bk j' b → j = j' := fun {j j' b} ⟨x, hx, e⟩ ⟨y, hy, e'⟩ => nodup_far hc.nd hx hy e e'
  have hin : ∀ {j o b}, (dpL d vS vT vs ++ L0)[j]? = some o → bk j b → s ≤ b ∧ b < w.heap.size := fun {j o b} ho ⟨x, hx, e⟩ => by
    obtain ⟨y, hy, _, _, h4⟩ := hget ho
    rw [hx] at hy
    injection hy with hy
    subst hy
    exact h4 b e
  have h0 : (dpL d vS vT vs ++ L0)[0]? = some (.sl Int 3 pI d.S vS) := rfl
  have h1 : (dpL d vS vT vs ++ L0)[1]? = some (.sl Value 39 pV vs vT) := rfl
  have hr : ∀ i : Nat, i < d.T.length → (dpL d vS vT vs ++ L0)[i + 2]? = some (.sl Int 3 pI (ix d.T i) (ix vs i)) := fun i hi => dpL_row hl hi
  refine ⟨fun b => s ≤ b ∧ b < w.heap.size, fun b h => h, vS, vT, bk 0, fun b => bk 1 b ∨ ∃ i, i < d.T.length ∧ bk (i + 2) b, rfl, ?_, ⟨vs, bk 1, fun i b => i < d.T.length ∧ bk (i + 2) b, ⟨?_, hl, fun i hi => ?_⟩, fun b hb => .inl hb, fun i b ⟨hi, hb⟩ => ⟨.inr ⟨i, hi, hb⟩, fun h' => ?_⟩, fun i j b hij ⟨_, hb⟩ ⟨_, hb'⟩ => ?_⟩, fun b hb => hin h0 hb, fun b hb => ?_, fun b hb hb' => ?_⟩
  · obtain ⟨x, hx, g1, g2, _⟩ := hget h0
    exact at_OS g1 g2 fun g e => ⟨x, hx, e⟩
  · obtain ⟨x, hx, g1, g2, _⟩ := hget h1
    exact at_OS g1 g2 fun g e => ⟨x, hx, e⟩
  · obtain ⟨x, hx, g1, g2, _⟩ := hget (hr i hi)
    exact at_OS g1 g2 fun g e => ⟨hi, x, hx, e⟩
  · have := hinj hb h'
    omega
  · have := hinj hb hb'
    omega
  · rcases hb with hb | ⟨i, hi, hb⟩
    · exact hin h1 hb
    · exact hin (hr i hi) hb
  · rcases hb' with hb' | ⟨i, hi, hb'⟩
    · have := hinj hb hb'
      omega
    · have := hinj hb hb'
      omega
def numD (k : Int) (d : Dep) : Dep := ⟨numL numIntS 1 k d.S.length, numR (k + d.S.length) d.T⟩
def kDep (k : Int) (d : Dep) : Int := kAt (k + d.S.length) d.T d.T.length
structure DepS (d : Dep) : Prop where
  s : (d.S.length : Int) ≤ 4
  t : (d.T.length : Int) ≤ 4
  r : ∀ i : Nat, i < d.T.length → ((ix d.T i).length : Int) ≤ 8
theorem DvI.sm {d : Dep} (h : DvI d) : DepS d := by
  have h1 := h.l
  have h2 := h.n
  exact ⟨by omega, by omega, fun i hi => h.row' ⟨by omega, by omega⟩⟩
theorem depS_nil : DepS ⟨[], []⟩ := ⟨by simp, by simp, fun i hi => by simp at hi⟩
theorem kDep_bd {d : Dep} {k : Int} (h : DepS d) : k ≤ kDep k d ∧ kDep k d ≤ k + 36 := by
  have h1 := h.s
  have h2 := h.t
  have := kAt_bd (k := k + d.S.length) (c := 8) h.r (Nat.le_refl d.T.length)
  unfold kDep
  omega
end Go.Proofs.Ytanlaggnhocjhaa

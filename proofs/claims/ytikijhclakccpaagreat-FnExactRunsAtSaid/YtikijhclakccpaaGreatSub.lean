/- A part of a slice of one's own: it begins within its block. -/
import Derived.Test.YtikijhclakccpaaGreatVals
namespace Go.Proofs.YtikijhclakccpaaGreat
set_option linter.unusedSimpArgs false
set_option linter.unusedVariables false
open Go.RowKit Go.ChangeShapes Go.WideShapes Go.ChangeAt Go.Deep
def OSub (xs : List Int) (S : Nat → Prop) (v : Value) (w : World) : Prop :=
  ∃ (g o c : Nat) (cs : List Value), v = .slice (some ⟨g, o, none⟩) xs.length c ∧ xs.length ≤ c ∧ c ≤ maxLen ∧ Blk w g 3 cs ∧ o + c ≤ cs.length ∧ S g ∧ ∀ (j : Nat) x, xs[j]? = some x → cs[o + j]? = some (.int .i64 x)
def oSub : Ow (List Int) := ⟨fun xs S v w => (xs = [] ∧ v = .slice none 0 0) ∨ OSub xs S v w, fun xs S T v w w' h hk hd => by
  rcases h with h | ⟨g, o, c, cs, h1, h2, h3, h4, h5, h6, h7⟩
  · exact .inl h
  · exact .inr ⟨g, o, c, cs, h1, h2, h3, hk.blk h4 fun ht => hd g h6 ht, h5, h6, h7⟩⟩
theorem oSub_isS {xs : List Int} {S : Nat → Prop} {v : Value} {w : World} (h : oSub.R xs S v w) : IsS (some 3) pI xs v w := by
  rcases h with ⟨h1, h2⟩ | ⟨g, o, c, cs, h1, h2, h3, h4, h5, h6, h7⟩
  · subst h1 h2; exact isS_nil
  · refine ⟨_, _, _, h1, rfl, h2, h3, fun i x hx => ⟨g, o, [.int .i64 x], rfl, fun j u hu => ?_, rfl, fun t' ht' => ⟨cs.toArray, (0, 0), by injection ht' with ht'; rw [← ht']; exact h4⟩⟩⟩
    cases j with
    | zero =>
      simp only [List.getElem?_cons_zero, Option.some.injEq] at hu
      subst hu
      have e : o + (i * pI.k + 0) = o + i := by show o + (i * 1 + 0) = o + i; omega
      rw [e]
      exact h4.cell (h7 i x hx)
    | succ j => simp at hu
theorem nil_oSub {s : Nat} {w : World} : (uO s oSub []).R (.slice none 0 0) w := ⟨fun _ => False, fun _ h => h.elim, .inl ⟨rfl, rfl⟩⟩
section
variable {P : Program} {ops : Array Oper} {C : World → Prop} {Q : Exit → Act → World → Prop} {N : Nat} {M : List (Nat × Pr) → List Oper → Prop} {K : List (Nat × Pr)} {rest : List Oper} {d : Nat} {op : Op} {ty : TypeId} {pos : String} {af : Array Edge} {g : Option (Nat × Bool)}
theorem W_sliceSub (hM : Stepper P ops C N M) {s : Nat} {xs : List Int} {x y z : Operand} {t : TypeId} {i j : Int} {hfl : Flat pI} (hB : elemB P t 1 = true) (hne : P.underlying t ≠ none) (hg : wantedK ops K g = some true) (hN : Nat.blt d N = true)
    (hx : kn K x = some (.inr (uO s (oF 3 pI hfl) xs))) (hy : kn K y = some (.inl (.int .i64 i))) (hz : kn K z = some (.inl (.int .i64 j))) (hi : 0 ≤ i ∧ i < j ∧ j ≤ (xs.length : Int))
    (h : M ((d, .inr (uO s oSub ((xs.drop i.toNat).take (j - i).toNat))) :: K) rest) : M K (⟨some d, .slice t x (some y) (some z) none, ty, pos, af, g⟩ :: rest) :=
  W_det hM _ hN hg (fun ρ w _ hk => by
    obtain ⟨S, hS, A, n, c, cs, ⟨p, hv, hp⟩, hn, hnc, hcm, hcl, hb, hSA, hA, hls⟩ := hk x (by simp [Op.operands]) _ hx
    have hyv : ρ y = .int .i64 i := hk y (by simp [Op.operands]) _ hy
    have hzv : ρ z = .int .i64 j := hk z (by simp [Op.operands]) _ hz
    cases A with
    | none => rw [hA rfl] at hi; simp at hi; omega
    | some b =>
      obtain rfl := hp.some_
      obtain ⟨te, inf, hu, hinf, hsz⟩ := elemB_spec hB
      have hcl' : cs.length = c := by rw [hcl]; exact Nat.mul_one c
      have b1 : 0 ≤ j ∧ j ≤ (c : Int) := by omega
      have b2 : 0 ≤ i ∧ i ≤ ((j.toNat : Nat) : Int) := by omega
      have b3 : ¬ c = i.toNat := by omega
      have hlen : ((xs.drop i.toNat).take (j - i).toNat).length = j.toNat - i.toNat := by rw [List.length_take, List.length_drop]; omega
      refine ⟨.slice (some ⟨b, i.toNat, none⟩) (j.toNat - i.toNat) (c - i.toNat), ?_, S, hS, .inr ⟨b, i.toNat, c - i.toNat, cs, by rw [hlen], by rw [hlen]; omega, by omega, hb, by omega, hSA b rfl, fun k u hk2 => ?_⟩⟩
      · simp [execOp, hv, hyv, hzv, Instr.sliceAt, Instr.slice, Instr.sliceBounds, Instr.sliceBound, asIntOf, run_underlying hu, sizeOf_run hinf, hsz, b1, hi.1, (show i ≤ max j 0 by omega), b3, aOf, Addr.add_lit]
      · rw [List.getElem?_take] at hk2
        split at hk2
        · rw [List.getElem?_drop] at hk2
          have h2 := hls (i.toNat + k) u hk2
          have h3 : (cs.drop ((i.toNat + k) * 1)).take 1 = [.int .i64 u] := h2
          rw [Nat.mul_one] at h3
          have h4 : ((cs.drop (i.toNat + k)).take 1)[0]? = some (.int .i64 u) := by rw [h3]; rfl
          simpa using h4
        · cases hk2) h
/-- Such a part comes out of a region that draws. -/
theorem H_openSub {wr : World} {ys : List Int} {c : Code} (t : Nat) (ht : lookK K t = some (.inr (uO wr.heap.size oSub ys))) (hne : 0 < ys.length) (hC : ∀ w, C w → Ext wr w)
    (h : ∀ g o n cs, wr.heap.size ≤ g → ys.length ≤ n → n ≤ maxLen → o + n ≤ cs.length → (∀ (j : Nat) x, ys[j]? = some x → cs[o + j]? = some (.int .i64 x)) → Hc P N ((t, .inl (.slice (some ⟨g, o, none⟩) ys.length n)) :: K) (Sep wr [.raw 3 g cs]) c Q) : Hc P N K C c Q := .of fun a w hst => by
  obtain ⟨v, hv, S, hS, hR⟩ := hst.slots t _ ht
  rcases hR with ⟨h1, _⟩ | ⟨g, o, n, cs, h1, h2, h3, h4, h5, h6, h7⟩
  · rw [h1] at hne; simp at hne
  · subst h1
    refine (h g o n cs (hS g h6).1 h2 h3 h5 h7).out a w ⟨hst.size, hst.defers, fun s p' hp' => ?_, ?_⟩
    · by_cases e0 : t = s
      · subst e0
        rw [lookK_same] at hp'
        injection hp' with hp'
        subst hp'
        exact ⟨_, hv, rfl⟩
      · rw [lookK_ne _ e0] at hp'
        exact hst.slots s p' hp'
    · have hbase : Cls wr [] (FctL [] []) w := (cls_ext w (hC w hst.cls)).fact fun _ m o x h1 => by simp at h1
      have hcl : Cls wr [(some g, 3, cs)] (FctL [] []) w := ⟨hbase.ext, by simp, fun b hb => by
          simp at hb
          subst hb
          exact (hS b h6).1, fun x hx => by
          simp at hx
          subst hx
          exact h4, hbase.fct⟩
      exact sep_cons rfl hcl rfl
end
theorem raw_oSub {w0 w : World} {s g o n : Nat} {cs : List Value} {ys : List Int} (h : Sep w0 [.raw 3 g cs] w) (hs : s ≤ w0.heap.size) (h0 : w0.heap.size ≤ g) (hn : ys.length ≤ n) (hm : n ≤ maxLen) (hl : o + n ≤ cs.length) (hc : ∀ (j : Nat) x, ys[j]? = some x → cs[o + j]? = some (.int .i64 x)) : (uO s oSub ys).R (.slice (some ⟨g, o, none⟩) ys.length n) w := by
  have hb := h.raw (m := 0) rfl
  exact ⟨fun b => b = g, fun b e => by subst e; exact ⟨Nat.le_trans hs h0, hb.lt⟩, .inr ⟨g, o, n, cs, rfl, hn, hm, hb, hl, rfl, hc⟩⟩
end Go.Proofs.YtikijhclakccpaaGreat

/- The law of CausedBy returns true whatever its input. -/
import Derived.Test.YtajpdedhoaomnaaLSec
namespace Go.Proofs.Ytajpdedhoaomnaa
set_option linter.unusedSimpArgs false
set_option linter.unusedVariables false
open Go.RowKit Go.ChangeShapes Go.WideShapes Go.ChangeAt Go.Deep
/-! The statement. -/
set_option maxRecDepth 100000 in
theorem FnExactCausedBy_lifted (os : Os) (started : os.Started) (H : Type) (enc : TypeId × Value → H) :
    ReturnsInHanded {} Try.checked os 8 .any (Rows.fnExactCausedBySpec.pre6 enc Try.prog Try.f8 Rows.fnExactCausedByRow.domain false) (Rows.fnExactCausedBySpec.post enc Try.prog Try.f8 false true false false) := by
  refine returnsInHanded_of_change (C := Try.checked) own_ started (by kernel_rfl) Try.func8
    (ChangeSpec.witness6 (enc := enc) (C := Try.checked) false ⟨#[], #[.agg #[.slice none 0 0, .slice none 0 0, .slice none 0 0], .agg #[.slice none 0 0, .int .i64 0], .slice none 0 0, .slice none 0 0, .int .i64 0], []⟩ 8 (by kernel_rfl) (by kernel_rfl) (by kernel_rfl) (by kernel_rfl)) ?_
  intro W base args ds gs before hval0 hW hcnd _
  have hval : ∀ (j : Nat) t v, Try.f8.params[j]? = some t → args[j]? = some v → Value.okWide Try.prog W .any base t v := hval0
  have hW' := hW
  obtain ⟨p, q, hA0, hV, rfl, hfz, hnd⟩ := hW
  have hA : DataW.TrodAll enc Try.prog W 0 (fun _ => true) true Try.f8.params.toList args.toList ds p := hA0
  rw [Try.params8] at hA hval
  obtain ⟨v0, vs0, d0, ds0, p0, q0, hargs, rfl, rfl, h0, r0⟩ := trodAll_cons hA
  obtain ⟨v1, vs1, d1, ds1, p1, q1, rfl, rfl, rfl, h1, r1⟩ := trodAll_cons r0
  obtain ⟨v2, vs2, d2, ds2, p2, q2, rfl, rfl, rfl, h2, r2⟩ := trodAll_cons r1
  obtain ⟨v3, vs3, d3, ds3, p3, q3, rfl, rfl, rfl, h3, r3⟩ := trodAll_cons r2
  obtain ⟨v4, vs4, d4, ds4, p4, q4, rfl, rfl, rfl, h4, r4⟩ := trodAll_cons r3
  obtain ⟨rfl, rfl, rfl⟩ := trodAll_nil r4
  obtain rfl : args = #[v0, v1, v2, v3, v4] := by cases args; simp_all
  obtain ⟨rfl, rfl⟩ := trodVars_none hV
  obtain ⟨a0, e0⟩ := arg_agg Try.underlying28 (rd_Tab) (hval 0 _ v0 rfl rfl) h0
  obtain ⟨a1, e1⟩ := arg_agg Try.underlying56 (rd_Flt) (hval 1 _ v1 rfl rfl) h1
  obtain ⟨a2, e2⟩ := arg_slice Try.underlying54 (Rd.slice Try.underlying54 (by kernel_rfl) (Nat.le_of_ble_eq_true rfl) (rd_intS)) (hval 2 _ v2 rfl rfl) h2
  obtain ⟨a3, e3⟩ := arg_slice Try.underlying29 (Rd.slice Try.underlying29 (by kernel_rfl) (Nat.le_of_ble_eq_true rfl) (rd_Dly)) (hval 3 _ v3 rfl rfl) h3
  obtain ⟨a4, e4⟩ := arg_int Try.underlying3 (hval 4 _ v4 rfl rfl) h4
  clear hA0 hval0
  refine ((ct_lawCausedBy a0 a1 a2 a3 a4).out W [v0, v1, v2, v3, v4] ⟨e0, e1, e2, e3, e4, trivial⟩).mono fun e W' ⟨u, he, bel, hu⟩ => ?_
  have hu' : u = .bool true := hu
  subst hu'
  subst he
  exact ⟨_, rfl, _, _, _, [], _, [], hW', trodAll_mk1 (shut_bool Try.underlying4 _), (trodAll_cons_mk (Below.trod laid_ (by kernel_rfl) (of_decide_eq_true (by kernel_rfl)) h0 bel (trod_lt' h0)) (trodAll_cons_mk (Below.trod laid_ (by kernel_rfl) (of_decide_eq_true (by kernel_rfl)) h1 bel (trod_lt' h1)) (trodAll_cons_mk (Below.trod laid_ (by kernel_rfl) (of_decide_eq_true (by kernel_rfl)) h2 bel (trod_lt' h2)) (trodAll_cons_mk (Below.trod laid_ (by kernel_rfl) (of_decide_eq_true (by kernel_rfl)) h3 bel (trod_lt' h3)) (trodAll_cons_mk (Below.trod laid_ (by kernel_rfl) (of_decide_eq_true (by kernel_rfl)) h4 bel (trod_lt' h4)) trodAll_mk0))))), rfl, Below.frame bel _, fun h => by cases h⟩
theorem FnExactCausedBy_over : Rows.fnExactCausedByRow.holds Try.pinned (OpenSpec.ofChange Rows.fnExactCausedBySpec) :=
  OpenClaim.holds_of_wide 8 Try.f8 rfl rfl rfl rfl rfl rfl rfl ⟨rfl, rfl, rfl, rfl, rfl⟩ rfl rfl rfl rfl rfl (by kernel_rfl) Try.func8 (by kernel_rfl)
    (of_decide_eq_true (by kernel_rfl)) (by unfold Func.isWrapper; first | (rw [if_pos (by decide +kernel)]; kernel_rfl) | (rw [if_neg (by decide +kernel)]; exact ⟨rfl, rfl⟩))
    (fun os started H enc _ => FnExactCausedBy_lifted os started H enc)
theorem FnExactCausedBy_holds : Rows.FnExactCausedBySaid := FnExactCausedBy_over
#print axioms FnExactCausedBy_holds
end Go.Proofs.Ytajpdedhoaomnaa

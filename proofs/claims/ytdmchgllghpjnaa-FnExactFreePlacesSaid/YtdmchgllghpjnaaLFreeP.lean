/- The law of FreePlaces returns true whatever its input. -/
import Derived.Test.YtdmchgllghpjnaaFree
namespace Go.Proofs.Ytdmchgllghpjnaa
set_option linter.unusedSimpArgs false
set_option linter.unusedVariables false
open Go.RowKit Go.ChangeShapes Go.WideShapes Go.ChangeAt Go.Deep
/-! The statement. -/
set_option maxRecDepth 100000 in
theorem FnExactFreePlaces_lifted (os : Os) (started : os.Started) (H : Type) (enc : TypeId × Value → H) :
    ReturnsInHanded {} Try.checked os 4 .any (Rows.fnExactFreePlacesSpec.pre6 enc Try.prog Try.f4 Rows.fnExactFreePlacesRow.domain false) (Rows.fnExactFreePlacesSpec.post enc Try.prog Try.f4 false true false false) := by
  refine returnsInHanded_of_change (C := Try.checked) own_ started (by kernel_rfl) Try.func4
    (ChangeSpec.witness6 (enc := enc) (C := Try.checked) false ⟨#[], #[.agg #[.slice none 0 0, .slice none 0 0]], []⟩ 8 (by kernel_rfl) (by kernel_rfl) (by kernel_rfl) (by kernel_rfl)) ?_
  intro W base args ds gs before hval0 hW hcnd _
  have hval : ∀ (j : Nat) t v, Try.f4.params[j]? = some t → args[j]? = some v → Value.okWide Try.prog W .any base t v := hval0
  have hW' := hW
  obtain ⟨p, q, hA0, hV, rfl, hfz, hnd⟩ := hW
  have hA : DataW.TrodAll enc Try.prog W 0 (fun _ => true) true Try.f4.params.toList args.toList ds p := hA0
  rw [Try.params4] at hA hval
  obtain ⟨v0, vs0, d0, ds0, p0, q0, hargs, rfl, rfl, h0, r0⟩ := trodAll_cons hA
  obtain ⟨rfl, rfl, rfl⟩ := trodAll_nil r0
  obtain rfl : args = #[v0] := by cases args; simp_all
  obtain ⟨rfl, rfl⟩ := trodVars_none hV
  obtain ⟨a0, e0⟩ := arg_agg Try.underlying25 (rd_Dep) (hval 0 _ v0 rfl rfl) h0
  clear hA0 hval0
  refine ((ct_lawFree a0).out W [v0] ⟨e0, trivial⟩).mono fun e W' ⟨u, he, bel, hu⟩ => ?_
  have hu' : u = .bool true := hu
  subst hu'
  subst he
  exact ⟨_, rfl, _, _, _, [], _, [], hW', trodAll_mk1 (shut_bool Try.underlying4 _), (trodAll_cons_mk (Below.trod laid_ (by kernel_rfl) (of_decide_eq_true (by kernel_rfl)) h0 bel (trod_lt' h0)) trodAll_mk0), rfl, Below.frame bel _, fun h => by cases h⟩
theorem FnExactFreePlaces_over : Rows.fnExactFreePlacesRow.holds Try.pinned (OpenSpec.ofChange Rows.fnExactFreePlacesSpec) :=
  OpenClaim.holds_of_wide 4 Try.f4 rfl rfl rfl rfl rfl rfl rfl ⟨rfl, rfl, rfl, rfl, rfl⟩ rfl rfl rfl rfl rfl (by kernel_rfl) Try.func4 (by kernel_rfl)
    (of_decide_eq_true (by kernel_rfl)) (by unfold Func.isWrapper; first | (rw [if_pos (by decide +kernel)]; kernel_rfl) | (rw [if_neg (by decide +kernel)]; exact ⟨rfl, rfl⟩))
    (fun os started H enc _ => FnExactFreePlaces_lifted os started H enc)
theorem FnExactFreePlaces_holds : Rows.FnExactFreePlacesSaid := FnExactFreePlaces_over
#print axioms FnExactFreePlaces_holds
end Go.Proofs.Ytdmchgllghpjnaa

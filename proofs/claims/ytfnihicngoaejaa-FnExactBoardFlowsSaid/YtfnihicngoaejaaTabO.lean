/- The value of a timetable's trips. -/
import Derived.Test.YtfnihicngoaejaaRunF0
import Derived.Test.YtfnihicngoaejaaTab
namespace Go.Proofs.Ytfnihicngoaejaa
set_option linter.unusedSimpArgs false
set_option linter.unusedVariables false
open Go.RowKit Go.ChangeShapes Go.WideShapes Go.ChangeAt Go.Deep
theorem tabP_open {t : Tab} {v : Value} {w : World} (h : IsP bTab t v w) : ∃ b o vT, v = .pointer (some ⟨b, o, none⟩) ∧ w.cell? ⟨b, o + 2, none⟩ = some vT ∧ IsS (some 88) pTrp t.T vT w := by
  obtain ⟨b, o, cs, rfl, hc, c1, c2, rfl, h1, c3, c4, rfl, ⟨vT, rfl, h2⟩, h3⟩ := h
  have hl : c1.length = 2 := Phi.len _ _ _ _ h1
  refine ⟨b, o, vT, rfl, hc 2 vT ?_, h2⟩
  rw [List.getElem?_append_right (by omega), hl]
  rfl
end Go.Proofs.Ytfnihicngoaejaa

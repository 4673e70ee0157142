/- The plain statement of the law FnExactBagFor, proved, under its own bounds alone. -/
import Derived.Test.YtobfeplphdnhfaaBagP
namespace Go.Proofs.Ytobfeplphdnhfaa.Pure
open Go.RowKit Go.Proofs.Ytobfeplphdnhfaa.Q Go.Proofs.Ytobfeplphdnhfaa.Std Go.Proofs.Ytobfeplphdnhfaa.Bag Go.Proofs.YtobfeplphdnhfaaW.PrintWords Go.Proofs.YtobfeplphdnhfaaW.PrintLast
set_option linter.unusedSimpArgs false
set_option linter.unusedVariables false

theorem FnExactBagFor : laws_FnExactBagFor.Plain := by
  rintro a l node ⟨_, hl, hs⟩ _
  obtain ⟨r, hev, hr⟩ := sz a l hl hs
  obtain ⟨K0, h0⟩ := Ev.get hev
  rcases hr with hr | ⟨hr, hlen⟩
  · refine ⟨K0, ?_⟩
    unfold laws_FnExactBagFor.f
    rw [h0 K0 (Nat.le_refl _), Option.bind_some, if_pos hr]
  · obtain ⟨K1, h1⟩ := Ev.get (toB a l hlen)
    have hlen2 : (l.map cv).length ≤ 1048576 := by rw [List.length_map]; exact hlen
    obtain ⟨K2, h2⟩ := Ev.get (specFor a (l.map cv) node hlen2)
    obtain ⟨K3, h3⟩ := Ev.get (implFor a (l.map cv) node hlen2)
    have hp : (places a (l.map cv) node).length ≤ 1048576 := Nat.le_trans (places_len _ _ _) hlen2
    obtain ⟨P, hP⟩ : ∃ P, P = places a (l.map cv) node := ⟨_, rfl⟩
    rw [← hP] at h2 h3 hp
    obtain ⟨K4, h4⟩ := Ev.get (eqIntS_refl P hp)
    obtain ⟨K5, h5⟩ := Ev.get (eqBag_refl a (l.map cv) hlen2)
    obtain ⟨c', l', he⟩ := mark_ev a (l.map cv) hlen2
    obtain ⟨K6, h6⟩ := Ev.get he
    obtain ⟨K7, h7⟩ := Ev.get (markIntS_of P hp 1 (by omega) (by omega))
    obtain ⟨K8, h8⟩ := Ev.get (heldIntS_of P.length hp 1 (by omega) (by omega))
    obtain ⟨m, hm⟩ : ∃ m, m = K0 + K1 + K2 + K3 + K4 + K5 + K6 + K7 + K8 := ⟨_, rfl⟩
    refine ⟨m + 1, ?_⟩
    have g1' := h1 m (by omega)
    have g3' := h3 m (by omega)
    have g4' := h4 m (by omega)
    have g7' := h7 m (by omega)
    have g8' := h8 m (by omega)
    unfold laws_FnExactBagFor.f
    rw [h0 (m + 1) (by omega), Option.bind_some, if_neg (by omega), h1 (m + 1) (by omega)]
    simp only [Option.bind_some]
    rw [h2 (m + 1) (by omega)]
    simp only [Option.bind_some]
    rw [h3 (m + 1) (by omega)]
    simp only [Option.bind_some]
    rw [h4 (m + 1) (by omega)]
    simp only [Option.bind_some, if_true]
    rw [h5 (m + 1) (by omega)]
    simp only [Option.bind_some, if_true]
    rw [h6 (m + 1) (by omega)]
    simp only [Option.bind_some]
    rw [if_neg (by omega)]
    simp only [laws_FnExactBagFor.j0, Bool.not_true, Option.bind_some, g7', g8', g1', g3', g4']
    rw [if_neg (by simp), if_neg (by omega), if_pos trivial, if_pos trivial, if_neg (by omega), if_pos trivial]

end Go.Proofs.Ytobfeplphdnhfaa.Pure

/- The plain statement of the law FnExactClientOk, proved, under its own bounds alone. -/
import Derived.Test.YtpdcdajccfccbaaMidFnExactClientOk
import Derived.Test.YtpdcdajccfccbaaCliP
namespace Go.Proofs.Ytpdcdajccfccbaa.Pure
open Go.RowKit Go.Proofs.Ytpdcdajccfccbaa.Q Go.Proofs.Ytpdcdajccfccbaa.Std Go.Proofs.YtpdcdajccfccbaaW.PrintWords Go.Proofs.YtpdcdajccfccbaaW.PrintLast
set_option linter.unusedSimpArgs false
set_option linter.unusedVariables false

theorem eqD (a b c d : Int) : laws_eqDigest.f a b c d a b c d = some true := by
  unfold laws_eqDigest.f
  simp
theorem eqP (a b c d e : Int) : laws_eqPoint.f a b c d e a b c d e = some true := by
  unfold laws_eqPoint.f
  rw [if_pos rfl, eqD]; rfl
theorem FnExactClientOk : laws_FnExactClientOk.Plain := by
  rintro a0 a1 a2 a3 a4 a5 a6 a7 a8 l p0 p1 p2 p3 p4 ⟨_, _, _, _, _, ⟨hl, _⟩, _⟩
  unfold maxLen at hl
  have hw : wrap64 (1048576 - (l.length : Int)) = 1048576 - (l.length : Int) := wrap_of (by omega) (by omega)
  by_cases hneg : 1048576 - (l.length : Int) < 0
  · refine ⟨0, ?_⟩
    unfold laws_FnExactClientOk.f laws_szClient.f laws_szIntS.f
    rw [hw, if_pos hneg]; rfl
  · have hlen : l.length ≤ 1048576 := by omega
    obtain ⟨K1, h1⟩ := Ev.get (toIntS_id l hlen)
    obtain ⟨K2, h2⟩ := Ev.get (spec_cli a0 a1 a2 a3 a4 a5 a6 a7 a8 l p0 p1 p2 p3 p4 hlen)
    obtain ⟨K3, h3⟩ := Ev.get (impl_cli a0 a1 a2 a3 a4 a5 a6 a7 a8 l p0 p1 p2 p3 p4 hlen)
    obtain ⟨K4, h4⟩ := Ev.get (eqIntS_refl l hlen)
    refine ⟨K1 + K2 + K3 + K4, ?_⟩
    have g1 := h1 (K1 + K2 + K3 + K4) (by omega)
    have g2 := h2 (K1 + K2 + K3 + K4) (by omega)
    have g3 := h3 (K1 + K2 + K3 + K4) (by omega)
    have g4 := h4 (K1 + K2 + K3 + K4) (by omega)
    have gt : laws_toClient.f (K1 + K2 + K3 + K4) a0 a1 a2 a3 a4 a5 a6 a7 a8 l p0 p1 p2 p3 p4 = some (a0, a1, a2, a3, a4, a5, a6, a7, a8, l, p0, p1, p2, p3, p4) := by
      unfold laws_toClient.f laws_toPoint.f laws_toDigest.f
      simp only [Option.bind_some]
      rw [g1]; rfl
    have ge : laws_eqClient.f (K1 + K2 + K3 + K4) a0 a1 a2 a3 a4 a5 a6 a7 a8 l p0 p1 p2 p3 p4 a0 a1 a2 a3 a4 a5 a6 a7 a8 l p0 p1 p2 p3 p4 = some true := by
      unfold laws_eqClient.f
      simp only [if_true, eqP, Option.bind_some, g4]
    unfold laws_FnExactClientOk.f laws_szClient.f laws_szIntS.f
    rw [hw, if_neg hneg]
    simp only [Option.bind_some]
    rw [if_neg hneg]
    simp only [Option.bind_some]
    rw [if_neg hneg, gt]
    simp only [Option.bind_some]
    rw [g2]
    simp only [Option.bind_some]
    rw [g3]
    simp only [Option.bind_some]
    rw [if_neg (by simp), ge]
    simp only [Option.bind_some, if_true]

end Go.Proofs.Ytpdcdajccfccbaa.Pure

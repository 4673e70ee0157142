/- Whether a slot is right, what a disk's record is, and what a witness holds: what the program and the reference answer, as one plain function each. No condition beyond each theorem's own. -/
import Derived.Test.YtcgfgodpiobcfaaSlotP
namespace Go.Proofs.Ytcgfgodpiobcfaa.Hash
open Go.RowKit Go.Proofs.Ytcgfgodpiobcfaa.Q Go.Proofs.YtcgfgodpiobcfaaW.PrintWords Go.Proofs.YtcgfgodpiobcfaaW.PrintLast Go.Proofs.YtcgfgodpiobcfaaW.PrintMore
set_option linter.unusedSimpArgs false
set_option linter.unusedVariables false
def slotOk (a0 a1 a2 a3 a4 a5 a6 : Int) : Bool := decide (a0 = slotSum a1 a2 a3 a4 a5 a6 ∧ a1 ≥ 1 ∧ a1 ≤ 1000000000 ∧ a2 ≥ 1 ∧ a2 ≤ 256)
theorem ok_ite (a0 a1 a2 s : Int) : (if a0 = s then (if a1 ≥ 1 then (if a1 ≤ 1000000000 then (if a2 ≥ 1 then (some (decide (a2 ≤ 256))) else (some false)) else (some false)) else (some false)) else (some false)) = some (decide (a0 = s ∧ a1 ≥ 1 ∧ a1 ≤ 1000000000 ∧ a2 ≥ 1 ∧ a2 ≤ 256)) := by
  repeat' split
  all_goals simp [*]
theorem spec_slotOk (a0 a1 a2 a3 a4 a5 a6 : Int) : Ev (fun k => spec_SlotOk.f k a0 a1 a2 a3 a4 a5 a6) (slotOk a0 a1 a2 a3 a4 a5 a6) := by
  obtain ⟨K, h⟩ := Ev.get (spec_slotSum a0 a1 a2 a3 a4 a5 a6)
  refine Ev.mk' K fun k hk => ?_
  unfold spec_SlotOk.f
  rw [h k hk, Option.bind_some]
  exact ok_ite _ _ _ _
theorem impl_slotOk (a0 a1 a2 a3 a4 a5 a6 : Int) : Ev (fun k => impl_SlotOk.f k a0 a1 a2 a3 a4 a5 a6) (slotOk a0 a1 a2 a3 a4 a5 a6) := by
  obtain ⟨K, h⟩ := Ev.get (impl_slotSum a0 a1 a2 a3 a4 a5 a6)
  refine Ev.mk' K fun k hk => ?_
  unfold impl_SlotOk.f
  rw [h k hk, Option.bind_some]
  exact ok_ite _ _ _ _
/-- What a disk of two slots says: sequence number, size, root, and which slot it is. -/
def record (a0 a1 a2 a3 a4 a5 a6 b0 b1 b2 b3 b4 b5 b6 : Int) : Int × Int × Int × Int × Int × Int × Int :=
  if slotOk a0 a1 a2 a3 a4 a5 a6 = true ∧ (slotOk b0 b1 b2 b3 b4 b5 b6 = true → a1 ≥ b1) then (wrap64 a1, wrap64 a2, a3, a4, a5, a6, 1)
  else if slotOk b0 b1 b2 b3 b4 b5 b6 = true then (wrap64 b1, wrap64 b2, b3, b4, b5, b6, 2) else (0, 0, 0, 0, 0, 0, 0)
theorem spec_record (a0 a1 a2 a3 a4 a5 a6 b0 b1 b2 b3 b4 b5 b6 : Int) : Ev (fun k => spec_RecordRead.f k a0 a1 a2 a3 a4 a5 a6 b0 b1 b2 b3 b4 b5 b6) (record a0 a1 a2 a3 a4 a5 a6 b0 b1 b2 b3 b4 b5 b6) := by
  obtain ⟨K0, h0⟩ := Ev.get (spec_slotOk a0 a1 a2 a3 a4 a5 a6)
  obtain ⟨K1, h1⟩ := Ev.get (spec_slotOk b0 b1 b2 b3 b4 b5 b6)
  refine Ev.mk' (K0 + K1 + 1) fun k hk => ?_
  obtain ⟨m, rfl⟩ : ∃ m, k = m + 1 := ⟨k - 1, by omega⟩
  unfold spec_RecordRead.f
  rw [h0 _ (by omega), Option.bind_some, h1 _ (by omega), Option.bind_some]
  unfold record
  cases slotOk a0 a1 a2 a3 a4 a5 a6 <;> cases slotOk b0 b1 b2 b3 b4 b5 b6 <;> by_cases h : a1 ≥ b1 <;> simp [spec_RecordRead.j0, h]
theorem impl_record (a0 a1 a2 a3 a4 a5 a6 b0 b1 b2 b3 b4 b5 b6 : Int) : Ev (fun k => impl_RecordRead.f k a0 a1 a2 a3 a4 a5 a6 b0 b1 b2 b3 b4 b5 b6) (record a0 a1 a2 a3 a4 a5 a6 b0 b1 b2 b3 b4 b5 b6) := by
  obtain ⟨K0, h0⟩ := Ev.get (impl_slotOk a0 a1 a2 a3 a4 a5 a6)
  obtain ⟨K1, h1⟩ := Ev.get (impl_slotOk b0 b1 b2 b3 b4 b5 b6)
  refine Ev.mk' (K0 + K1) fun k hk => ?_
  unfold impl_RecordRead.f
  simp only [h0 _ (show K0 ≤ k by omega), Option.bind_some, h1 _ (show K1 ≤ k by omega)]
  unfold record
  have hc : (b1 > a1) = ¬ (a1 ≥ b1) := by simp
  cases slotOk a0 a1 a2 a3 a4 a5 a6 <;> cases slotOk b0 b1 b2 b3 b4 b5 b6 <;> by_cases h : a1 ≥ b1 <;> simp [h, hc]
def heldOf (r : Int × Int × Int × Int × Int × Int × Int) : Int × Int × Int × Int × Int := if r.2.2.2.2.2.2 = 0 then (0, hash (⟨#[]⟩ : ByteArray)) else (r.2.1, r.2.2.1, r.2.2.2.1, r.2.2.2.2.1, r.2.2.2.2.2.1)
/-- What the witness of a disk holds: size and root. -/
def held (a0 a1 a2 a3 a4 a5 a6 b0 b1 b2 b3 b4 b5 b6 : Int) : Int × Int × Int × Int × Int :=
  heldOf (record a0 a1 a2 a3 a4 a5 a6 b0 b1 b2 b3 b4 b5 b6)
theorem spec_held (a0 a1 a2 a3 a4 a5 a6 b0 b1 b2 b3 b4 b5 b6 : Int) : Ev (fun k => spec_WitnessHeld.f k a0 a1 a2 a3 a4 a5 a6 b0 b1 b2 b3 b4 b5 b6) (held a0 a1 a2 a3 a4 a5 a6 b0 b1 b2 b3 b4 b5 b6) := by
  obtain ⟨K0, h0⟩ := Ev.get (spec_record a0 a1 a2 a3 a4 a5 a6 b0 b1 b2 b3 b4 b5 b6)
  obtain ⟨K1, h1⟩ := Ev.get (spec_hash (⟨#[]⟩ : ByteArray))
  refine Ev.mk' (K0 + K1) fun k hk => ?_
  unfold spec_WitnessHeld.f held
  rw [h0 _ (by omega), Option.bind_some, h1 _ (by omega), Option.bind_some]
  generalize record a0 a1 a2 a3 a4 a5 a6 b0 b1 b2 b3 b4 b5 b6 = r
  unfold heldOf
  by_cases hz : r.2.2.2.2.2.2 = 0
  · rw [if_pos hz, if_pos hz]
  · rw [if_neg hz, if_neg hz]
theorem impl_held (a0 a1 a2 a3 a4 a5 a6 b0 b1 b2 b3 b4 b5 b6 : Int) : Ev (fun k => impl_WitnessHeld.f k a0 a1 a2 a3 a4 a5 a6 b0 b1 b2 b3 b4 b5 b6) (held a0 a1 a2 a3 a4 a5 a6 b0 b1 b2 b3 b4 b5 b6) := by
  obtain ⟨K0, h0⟩ := Ev.get (impl_record a0 a1 a2 a3 a4 a5 a6 b0 b1 b2 b3 b4 b5 b6)
  obtain ⟨K1, h1⟩ := Ev.get (impl_hash (⟨#[]⟩ : ByteArray))
  refine Ev.mk' (K0 + K1) fun k hk => ?_
  unfold impl_WitnessHeld.f held
  rw [h0 _ (by omega), Option.bind_some, h1 _ (by omega), Option.bind_some]
  generalize record a0 a1 a2 a3 a4 a5 a6 b0 b1 b2 b3 b4 b5 b6 = r
  unfold heldOf
  by_cases hz : r.2.2.2.2.2.2 = 0
  · rw [if_pos hz, if_pos hz]
  · rw [if_neg hz, if_neg hz]
theorem eqDigest_refl (a b c d : Int) : laws_eqDigest.f a b c d a b c d = some true := by simp [laws_eqDigest.f]
theorem eqRecord_refl (a b c d e f : Int) : laws_eqRecord.f a b c d e f a b c d e f = some true := by simp [laws_eqRecord.f, eqDigest_refl]
theorem eqPoint_refl (a b c d e : Int) : laws_eqPoint.f a b c d e a b c d e = some true := by simp [laws_eqPoint.f, eqDigest_refl]
end Go.Proofs.Ytcgfgodpiobcfaa.Hash

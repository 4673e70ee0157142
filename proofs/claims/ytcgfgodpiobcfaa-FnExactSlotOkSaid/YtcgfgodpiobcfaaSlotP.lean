/- The sum of a slot and whether it is right: what the program and the reference answer, as one plain function. No condition beyond each theorem's own. -/
import Derived.Test.YtcgfgodpiobcfaaHashP
namespace Go.Proofs.Ytcgfgodpiobcfaa.Hash
open Go.RowKit Go.Proofs.Ytcgfgodpiobcfaa.Q Go.Proofs.YtcgfgodpiobcfaaW.PrintWords Go.Proofs.YtcgfgodpiobcfaaW.PrintLast Go.Proofs.YtcgfgodpiobcfaaW.PrintMore
set_option linter.unusedSimpArgs false
set_option linter.unusedVariables false
def slotBytes (a1 a2 a3 a4 a5 a6 : Int) : List Int := be8 a1 ++ be8 a2 ++ (be8 a3 ++ be8 a4 ++ be8 a5 ++ be8 a6)
theorem str_be8 (x : Int) : (strOfNums (be8 x)).size = 8 := by rw [strOfNums_size]; rfl
theorem hashBytes_of (a b c d : Int) : Ev (fun k => spec_HashBytes.f k a b c d) (strOfNums (be8 a ++ be8 b ++ be8 c ++ be8 d)) := by
  obtain ⟨K0, h0⟩ := Ev.get (l1Bytes_of a)
  obtain ⟨K1, h1⟩ := Ev.get (l1Bytes_of b)
  obtain ⟨K2, h2⟩ := Ev.get (l1Bytes_of c)
  obtain ⟨K3, h3⟩ := Ev.get (l1Bytes_of d)
  refine Ev.mk' (K0 + K1 + K2 + K3) fun k hk => ?_
  unfold spec_HashBytes.f
  rw [h0 k (by omega), Option.bind_some, h1 k (by omega), Option.bind_some, if_pos (by rw [str_be8, str_be8]; omega), h2 k (by omega), Option.bind_some, if_pos (by rw [ByteArray.size_append, str_be8, str_be8, str_be8]; omega), h3 k (by omega), Option.bind_some,
    if_pos (by rw [ByteArray.size_append, ByteArray.size_append, str_be8, str_be8, str_be8, str_be8]; omega), str_append, str_append, str_append]
def slotSum (a1 a2 a3 a4 a5 a6 : Int) : Int := Go.bits .or .u64 (hash (strOfNums (slotBytes a1 a2 a3 a4 a5 a6))).1 1
theorem spec_slotSum (a0 a1 a2 a3 a4 a5 a6 : Int) : Ev (fun k => spec_SlotSum.f k a0 a1 a2 a3 a4 a5 a6) (slotSum a1 a2 a3 a4 a5 a6) := by
  obtain ⟨K0, h0⟩ := Ev.get (l1Bytes_of a1)
  obtain ⟨K1, h1⟩ := Ev.get (l1Bytes_of a2)
  obtain ⟨K2, h2⟩ := Ev.get (hashBytes_of a3 a4 a5 a6)
  obtain ⟨K3, h3⟩ := Ev.get (spec_hash (strOfNums (slotBytes a1 a2 a3 a4 a5 a6)))
  refine Ev.mk' (K0 + K1 + K2 + K3) fun k hk => ?_
  unfold spec_SlotSum.f
  have e : strOfNums (be8 a1) ++ strOfNums (be8 a2) ++ strOfNums (be8 a3 ++ be8 a4 ++ be8 a5 ++ be8 a6) = strOfNums (slotBytes a1 a2 a3 a4 a5 a6) := by rw [str_append, str_append]; rfl
  rw [h0 k (by omega), Option.bind_some, h1 k (by omega), Option.bind_some, if_pos (by rw [str_be8, str_be8]; omega), h2 k (by omega), Option.bind_some, if_pos (by rw [ByteArray.size_append, str_be8, str_be8, strOfNums_size]; simp [be8_len]), e, h3 k (by omega), Option.bind_some]
  rfl
theorem impl_slotSum (a0 a1 a2 a3 a4 a5 a6 : Int) : Ev (fun k => impl_SlotSum.f k a0 a1 a2 a3 a4 a5 a6) (slotSum a1 a2 a3 a4 a5 a6) := by
  obtain ⟨K3, h3⟩ := Ev.get (impl_hash (strOfNums (slotBytes a1 a2 a3 a4 a5 a6)))
  refine Ev.mk' K3 fun k hk => ?_
  have e : slot_sum.f [a1, a2, a3, a4, a5, a6] 6 = slotBytes a1 a2 a3 a4 a5 a6 := by simp [slot_sum.f, slotBytes, slot_be8.f, be8]
  unfold impl_SlotSum.f
  rw [e, h3 k hk, Option.bind_some]
  rfl
end Go.Proofs.Ytcgfgodpiobcfaa.Hash

/- A law's call. No condition but each theorem's own. -/
import Derived.Test.YtcgkhljolflenaaGreatVCd
import Derived.Below
namespace Go.Proofs.YtcgkhljolflenaaGreatW.V
open Go Go.RowKit

/-- Nobody writes what was there. -/
abbrev allI (W : World) : Imm := fun b _ => b < W.heap.size
abbrev noMu : Mu := fun _ => none

theorem law_calls {P : Program} {f : FuncId} {args : List E} {us : List Value} {W : World} (h : VFun P f args [] (eBool.enc true) []) (hF : F2 (ER W (allI W) noMu (lensL [])) args us) :
    Calls P f us.toArray W fun e W' => e = .returned (.bool true) ∧ Below W.heap.size W W' := by
  refine (h.2 W (allI W) noMu us hF ⟨fun j r hj => by simp at hj, fun j j' r r' f f' b hj => by simp at hj, fun g c f hf => by cases hf⟩ fun b o hb => hb).mono ?_
  rintro e W' ⟨v, I', μ', rfl, hv, _, _, hG, _⟩
  have e1 : v = .bool true := sc_er (w := W') (I := I') (μ := μ') (L := lensL []) hv
  subst e1
  exact ⟨rfl, hG.os, hG.tape, hG.output, hG.size, fun k hk => hG.block k hk fun ⟨_, _, hf, _⟩ => by cases hf⟩

theorem er_int {W : World} {I : Imm} {μ : Mu} {L : Lens} (k : IntKind) (a : Int) : ER W I μ L ((eInt k).enc a) (.int k a) := .v _ rfl

end Go.Proofs.YtcgkhljolflenaaGreatW.V

/- Functions: the bytes of an ask and of a fetch. No condition but each theorem's own. -/
import Derived.Test.YtfccplibbdnkpaaFWA
namespace Go.Proofs.YtfccplibbdnkpaaW.V
open Go Go.Proofs
set_option linter.unusedSimpArgs false
set_option linter.unusedVariables false
set_option maxRecDepth 8000
set_option maxHeartbeats 4000000

set_option synthInstance.maxSize 1000

/-- A number in bytes, the higher first. -/
def nbM : Nat → Nat → List UInt8
  | 0, _ => []
  | k + 1, n => nbM k (n / 256) ++ [UInt8.ofNat (n % 256)]
theorem wr_div (v : Nat) (h : v ≤ 16777215) : IntKind.i64.wrap ((v : Int).tdiv 256) = ((v / 256 : Nat) : Int) := by
  have e : (v : Int).tdiv 256 = ((v / 256 : Nat) : Int) := rfl
  rw [e, wrap64] <;> omega
theorem wr_mod (v : Nat) : IntKind.u8.wrap ((v : Int).tmod 256) = ((v % 256 : Nat) : Int) := by
  have e : (v : Int).tmod 256 = ((v % 256 : Nat) : Int) := rfl
  rw [e]
  simp [IntKind.wrap, IntKind.bits, IntKind.signed]
theorem nbM_len : ∀ k n, (nbM k n).length = k
  | 0, _ => rfl
  | k + 1, n => by rw [nbM, List.length_append, nbM_len]; rfl

/-- The bytes of an ask and of a fetch. -/
def tickMsg (m : Msg) : Prop := (∃ s : Nat, 1 ≤ s ∧ s ≤ 1000000 ∧ m = (1, (s : Int), 0, 0, (0, 0, 0, 0), 0, [], [])) ∨ (∃ f c : Nat, f ≤ 256 ∧ 1 ≤ c ∧ c ≤ 8 ∧ m = (7, 0, (f : Int), 0, (0, 0, 0, 0), (c : Int), [], []))
def tickB (m : Msg) : ByteArray := if m.1 = 1 then ⟨([1] ++ nbM 3 m.2.1.toNat).toArray⟩ else ⟨([7] ++ nbM 2 m.2.2.1.toNat ++ nbM 1 m.2.2.2.2.2.1.toNat).toArray⟩
theorem tick_ok {m : Msg} (h : tickMsg m) : wireOkM m = true := by
  rcases h with ⟨s, h1, h2, rfl⟩ | ⟨f, c, h1, h2, h3, rfl⟩
  · have e : decide ((1 : Int) ≤ (s : Int) ∧ (s : Int) ≤ 1000000) = true := decide_eq_true (by omega)
    simp [wireOkM, partsL, partOkM, e]
  · simp [wireOkM, partsL, partOkM]; omega
abbrev MWire : FM := .f1 (CE.st cMsg) eStr.enc tickB tickMsg
attribute [go_sem] MWire

theorem tickB_size (m : Msg) : (tickB m).size = 4 := by
  unfold tickB
  split
  · show ([1] ++ nbM 3 m.2.1.toNat).length = 4
    rw [List.length_append, nbM_len]; rfl
  · show ([7] ++ nbM 2 m.2.2.1.toNat ++ nbM 1 m.2.2.2.2.2.1.toNat).length = 4
    rw [List.length_append, List.length_append, nbM_len, nbM_len]; rfl

/- The reader of draws: of what it answers only the bounds are said. No condition but each theorem's own. -/
import Derived.Test.YtlofjogebacndaaGreatFC
import Derived.Test.YtlofjogebacndaaGreatVCe
namespace Go.Proofs.YtlofjogebacndaaGreatW.V
open Go Go.Proofs
set_option linter.unusedSimpArgs false
set_option linter.unusedVariables false
set_option maxRecDepth 8000
set_option maxHeartbeats 4000000


abbrev rdP : E := .x (.o (.p (0, 0) 0 0 1))
def rdR (b : List UInt8) (p : Int) : Root := .bx [[.c (.s (b.map cU8.enc)), .c (.v (.int .i64 p))]]
attribute [go_sem] rdR
abbrev rdM : Int := 1000000000000000
attribute [go_sem] rdM
/-- A method of the reader without further arguments, with one, with two: it goes on by at most K. -/
abbrev FR.rd0 {R : Type} (r : R → E) (K : Int) (post : R → Prop) : FR where
  md := []
  m args rin := match args, rin with
    | [.x (.o (.p (0, 0) 0 0 1))], [.bx [[.c (.s rows), .c (.v (.int .i64 p))]]] => match mapO cU8.dec rows with
      | some b => some (rows = b.map cU8.enc ∧ 0 ≤ p ∧ p + K ≤ rdM, fun k => ∀ v q, p ≤ q ∧ q ≤ p + K ∧ post v → k (r v) [some (rdR b q)])
      | none => none
    | _, _ => none
abbrev FR.rd1 {X R : Type} (a : CE X) (r : R → E) (K : X → Int) (pre : X → Prop) (post : X → R → Prop) : FR where
  md := []
  m args rin := match args, rin with
    | [.x (.o (.p (0, 0) 0 0 1)), e2], [.bx [[.c (.s rows), .c (.v (.int .i64 p))]]] => match mapO cU8.dec rows, a.dec e2 with
      | some b, some x => some (rows = b.map cU8.enc ∧ 0 ≤ p ∧ p + K x ≤ rdM ∧ pre x, fun k => ∀ v q, p ≤ q ∧ q ≤ p + K x ∧ post x v → k (r v) [some (rdR b q)])
      | _, _ => none
    | _, _ => none
theorem FR.rd0_ok {P : Program} {g : FuncId} {R : Type} {r : R → E} {K : Int} {post : R → Prop} (h : ∀ (b : List UInt8) (p : Int), 0 ≤ p → p + K ≤ rdM → ∃ t : R × Int, (p ≤ t.2 ∧ t.2 ≤ p + K ∧ post t.1) ∧ VFun P g [rdP] [some (rdR b p)] (r t.1) [some (rdR b t.2)]) : (FR.rd0 r K post).ok P g := by
  intro args rin pre W hm hp k hk
  simp only [FR.rd0] at hm
  split at hm
  · split at hm
    · cases hm
      obtain ⟨e, h1, h2⟩ := hp
      subst e
      obtain ⟨t, h3, h4⟩ := h _ _ h1 h2
      exact ⟨_, _, h4, hk _ _ h3⟩
    · cases hm
  · cases hm
theorem FR.rd1_ok {P : Program} {g : FuncId} {X R : Type} {a : CE X} {r : R → E} {K : X → Int} {pre : X → Prop} {post : X → R → Prop} (h : ∀ (b : List UInt8) (p : Int) (x : X), 0 ≤ p → p + K x ≤ rdM → pre x → ∃ t : R × Int, (p ≤ t.2 ∧ t.2 ≤ p + K x ∧ post x t.1) ∧ VFun P g [rdP, a.enc x] [some (rdR b p)] (r t.1) [some (rdR b t.2)]) : (FR.rd1 a r K pre post).ok P g := by
  intro args rin pr W hm hp k hk
  simp only [FR.rd1] at hm
  split at hm
  · split at hm
    · rename_i e2 rows p _ _ b x h1 h2
      cases hm
      obtain ⟨e, h3, h4, h5⟩ := hp
      subst e
      obtain ⟨t, h6, h7⟩ := h b p x h3 h4 h5
      exact ⟨_, _, h7.weaken (.cons (fun _ _ _ _ _ h => h) (.cons (a.ok _ _ h2) .nil)), hk _ _ h6⟩
    · cases hm
  · cases hm

theorem xor_nn {m n : Int} (h0 : 0 ≤ m) (h1 : m < 9223372036854775808) (h2 : 0 ≤ n) (h3 : n < 9223372036854775808) : 0 ≤ xorI .i64 m n := by
  show 0 ≤ IntKind.i64.wrap ((BitVec.ofInt 64 m ^^^ BitVec.ofInt 64 n).toNat : Nat)
  obtain ⟨a, rfl⟩ := Int.eq_ofNat_of_zero_le h0
  obtain ⟨b, rfl⟩ := Int.eq_ofNat_of_zero_le h2
  have e : (BitVec.ofInt 64 (a : Int) ^^^ BitVec.ofInt 64 (b : Int)).toNat = a ^^^ b := by
    rw [BitVec.toNat_xor]
    simp only [BitVec.toNat_ofInt]
    congr 1 <;> omega
  have h4 : a ^^^ b < 2 ^ 63 := Nat.xor_lt_two_pow (by omega) (by omega)
  rw [e, wrap64] <;> omega

theorem wrapU8 (y : UInt8) : IntKind.u8.wrap (y.toNat : Int) = (y.toNat : Int) := by
  have := y.toNat_lt
  simp [IntKind.wrap, IntKind.bits, IntKind.signed]; omega
theorem wrapU8_of {t : Int} (h0 : 0 ≤ t) (h1 : t < 256) : ∃ y : UInt8, IntKind.u8.wrap t = (y.toNat : Int) := by
  refine ⟨UInt8.ofNat t.toNat, ?_⟩
  simp [IntKind.wrap, IntKind.bits, IntKind.signed]; omega

/-- What is drawn by a code: of which only something is said. -/
abbrev FR.dr {R : Type} (r : CE R) (post : R → Prop) : FR where
  md := []
  m args rin := match args, rin with
    | [e1], [] => match (eList cU8).dec e1 with
      | some b => some (b.length ≤ 1048576, fun k => ∀ v, post v → k (r.enc v) [])
      | none => none
    | _, _ => none
theorem FR.dr_ok {P : Program} {g : FuncId} {R : Type} {r : CE R} {post : R → Prop} (h : ∀ (b : List UInt8), b.length ≤ 1048576 → ∃ v : R, post v ∧ VFun P g [(eList cU8).enc b] [] (r.enc v) []) : (FR.dr r post).ok P g := by
  intro args rin pre W hm hp k hk
  simp only [FR.dr] at hm
  split at hm
  · split at hm
    · rename_i h1
      cases hm
      obtain ⟨v, h3, h4⟩ := h _ hp
      exact ⟨_, _, h4.weaken (.cons (CE.ok _ _ _ h1) .nil), hk _ h3⟩
    · cases hm
  · cases hm

end Go.Proofs.YtlofjogebacndaaGreatW.V


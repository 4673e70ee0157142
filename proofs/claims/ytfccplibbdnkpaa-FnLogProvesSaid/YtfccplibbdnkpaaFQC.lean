/- Functions: clients. No condition but each theorem's own. -/
import Derived.Test.YtfccplibbdnkpaaFQT
namespace Go.Proofs.YtfccplibbdnkpaaW.V
open Go Go.Proofs
set_option linter.unusedSimpArgs false
set_option linter.unusedVariables false
set_option maxRecDepth 8000
set_option maxHeartbeats 4000000

set_option synthInstance.maxSize 1000

def ackB (many : Int) (l : List Int) (i : Nat) : Bool := match l[i]? with
  | none => true
  | some x => decide (1 ≤ x ∧ x ≤ many) && match i with
    | 0 => true
    | j + 1 => match l[j]? with
      | none => true
      | some y => decide (y < x)
def acksOk (many : Int) (l : List Int) : Bool := (List.range l.length).all (ackB many l)
theorem acksOk_bad {many : Int} {l : List Int} {i : Nat} (h : i < l.length) (hb : ackB many l i = false) : acksOk many l = false :=
  List.all_eq_false.2 ⟨i, List.mem_range.2 h, by simp [hb]⟩
theorem acksOk_good {many : Int} {l : List Int} (h : ∀ i, i < l.length → ackB many l i = true) : acksOk many l = true :=
  List.all_eq_true.2 fun i hi => h i (List.mem_range.1 hi)
theorem ackB_0 {many : Int} {l : List Int} {x : Int} (hx : l[0]? = some x) : ackB many l 0 = decide (1 ≤ x ∧ x ≤ many) := by
  simp [ackB, hx]
theorem ackB_s {many : Int} {l : List Int} {i : Nat} {x y : Int} (hx : l[i + 1]? = some x) (hy : l[i]? = some y) : ackB many l (i + 1) = (decide (1 ≤ x ∧ x ≤ many) && decide (y < x)) := by
  simp [ackB, hx, hy]
theorem all_nextA {p : Nat → Bool} {i : Nat} (h : ∀ j, j < i → p j = true) (hi : p i = true) : ∀ j, j < i + 1 → p j = true := fun j hj => by
  rcases Nat.lt_or_ge j i with h4 | h4
  · exact h j h4
  · rw [show j = i by omega]; exact hi

abbrev zPoint : Point := (0, 0, 0, 0, 0)
def headOk (c : Client) : Prop := (1 ≤ c.2.1 ∧ c.2.1 ≤ 7) ∧ (1 ≤ c.1 ∧ c.1 ≤ c.2.1) ∧ ¬ 2 * c.1 ≤ c.2.1 ∧ (0 ≤ c.2.2.1 ∧ c.2.2.1 ≤ 1000000) ∧ ((1 ≤ c.2.2.2.2.2.2.1 ∧ c.2.2.2.2.2.2.1 ≤ 256) ∨ c.2.2.2.2.2.2 = zPoint)
def quietOk (c : Client) : Prop := c.2.2.2.2.1 = zPoint ∧ c.2.2.2.2.2.1.length = 0 ∧ c.2.2.2.1 ≤ c.2.2.1
def vouchOk (c : Client) : Prop := 1 ≤ c.2.2.1 ∧ (c.2.2.2.2.2.2.1 + 1 ≤ c.2.2.2.2.1.1 ∧ c.2.2.2.2.1.1 ≤ 256) ∧ (c.2.2.2.2.2.1.length : Int) < c.1
instance (c : Client) : Decidable (headOk c) := by unfold headOk; infer_instance
instance (c : Client) : Decidable (quietOk c) := by unfold quietOk; infer_instance
instance (c : Client) : Decidable (vouchOk c) := by unfold vouchOk; infer_instance
def clientM (c : Client) : Bool := decide (headOk c) && (if c.2.2.2.1 = 0 ∨ c.2.2.2.1 = 1 then decide (quietOk c) else if c.2.2.2.1 = 2 then decide (vouchOk c) && acksOk c.2.1 c.2.2.2.2.2.1 else false)
theorem clientM_no {c : Client} (h : ¬ headOk c) : clientM c = false := by
  unfold clientM; rw [decide_eq_false h]; rfl
theorem clientM_q {c : Client} (h : headOk c) (hp : c.2.2.2.1 = 0 ∨ c.2.2.2.1 = 1) : clientM c = decide (quietOk c) := by
  unfold clientM; rw [decide_eq_true h, if_pos hp, Bool.true_and]
theorem clientM_v {c : Client} (h : headOk c) (hp : c.2.2.2.1 = 2) : clientM c = (decide (vouchOk c) && acksOk c.2.1 c.2.2.2.2.2.1) := by
  unfold clientM; rw [decide_eq_true h, if_neg (by omega), if_pos hp, Bool.true_and]
theorem clientM_x {c : Client} (h : ¬ c.2.2.2.1 = 0) (h1 : ¬ c.2.2.2.1 = 1) (h2 : ¬ c.2.2.2.1 = 2) : clientM c = false := by
  unfold clientM; rw [if_neg (by omega), if_neg h2, Bool.and_false]
theorem zP (a : Int) (b c d e : UInt64) : (decide (a = 0) && (decide (b = 0) && (decide (c = 0) && (decide (d = 0) && decide (e = 0))))) = decide ((a, b, c, d, e) = zPoint) := by
  simp [zPoint, Bool.decide_and]
abbrev bxClient (c : Client) : List D := [.c (.v (.int .i64 c.1)), .c (.v (.int .i64 c.2.1)), .c (.v (.int .i64 c.2.2.1)), .c (.v (.int .i64 c.2.2.2.1)),
  .c (.v (.int .i64 c.2.2.2.2.1.1)), .c (.v (.int .u64 c.2.2.2.2.1.2.1.toNat)), .c (.v (.int .u64 c.2.2.2.2.1.2.2.1.toNat)), .c (.v (.int .u64 c.2.2.2.2.1.2.2.2.1.toNat)), .c (.v (.int .u64 c.2.2.2.2.1.2.2.2.2.toNat)),
  .c (.s (c.2.2.2.2.2.1.map (cInt .i64).enc)),
  .c (.v (.int .i64 c.2.2.2.2.2.2.1)), .c (.v (.int .u64 c.2.2.2.2.2.2.2.1.toNat)), .c (.v (.int .u64 c.2.2.2.2.2.2.2.2.1.toNat)), .c (.v (.int .u64 c.2.2.2.2.2.2.2.2.2.1.toNat)), .c (.v (.int .u64 c.2.2.2.2.2.2.2.2.2.2.toNat))]
attribute [go_sem] bxClient
abbrev MClientOk : FM := .f1 (CE.st cClient) eBool.enc clientM (fun c => c.2.2.2.2.2.1.length ≤ 1048576)
attribute [go_sem] MClientOk

end Go.Proofs.YtfccplibbdnkpaaW.V


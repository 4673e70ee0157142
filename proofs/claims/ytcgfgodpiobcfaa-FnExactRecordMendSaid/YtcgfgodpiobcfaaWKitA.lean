/- Small words for the plain statements: rounds, counters, sizes. No condition beyond each theorem's own. -/
import Derived.Test.YtcgfgodpiobcfaaWWords
namespace Go.Proofs.YtcgfgodpiobcfaaW.PrintWords
open Go.RowKit
theorem down {n : Nat} {P : Nat → Prop} (h : P n) (step : ∀ i, i < n → P (i + 1) → P i) : P 0 := by
  have : ∀ d, d ≤ n → P (n - d) := by
    intro d
    induction d with
    | zero => intro _; exact h
    | succ d ih =>
      intro hd
      refine step _ (by omega) ?_
      rw [show n - (d + 1) + 1 = n - d by omega]
      exact ih (by omega)
  have h2 := this n (Nat.le_refl _)
  rwa [Nat.sub_self] at h2
theorem wrap_of {x : Int} (h0 : -9223372036854775808 ≤ x) (h1 : x ≤ 9223372036854775807) : wrap64 x = x := by
  unfold wrap64
  omega
theorem wrap_succ (i : Nat) (h : i < 9223372036854775807) : wrap64 ((i : Int) + 1) = ((i + 1 : Nat) : Int) := by
  rw [wrap_of (by omega) (by omega)]; omega
theorem wf_i64 {x : Int} (h : (Lit.int .i64 x).wf = true) : -9223372036854775808 ≤ x ∧ x ≤ 9223372036854775807 := by
  have h1 : IntKind.i64.min ≤ x ∧ x ≤ 9223372036854775807 := by simpa [Lit.wf] using h
  have h2 : IntKind.i64.min = -9223372036854775808 := rfl
  omega
theorem Ev.mk' {α : Type} {g : Nat → Option α} {r : α} (K : Nat) (h : ∀ k, K ≤ k → g k = some r) : Ev g r := ⟨K, h⟩
theorem Ev.get {α : Type} {g : Nat → Option α} {r : α} (h : Ev g r) : ∃ K, ∀ k, K ≤ k → g k = some r := h
theorem getD_lt {α : Type} (l : List α) (i : Nat) (z : α) (h : i < l.length) : l.getD i z = l[i] := by
  rw [List.getD_eq_getElem?_getD, List.getElem?_eq_getElem h]; rfl
theorem drop_cons {α : Type} (l : List α) (i : Nat) (h : i < l.length) : l.drop i = l[i] :: l.drop (i + 1) := List.drop_eq_getElem_cons h
theorem set_mid {α : Type} (a b : List α) (z x : α) : (a ++ z :: b).set a.length x = (a ++ [x]) ++ b := by
  induction a with
  | nil => rfl
  | cons c a ih => simp [ih]
/-- A list that is filled from the front: its first i are done, the others nought. -/
theorem fill_step {α β : Type} (l : List α) (f : α → β) (z : β) (i : Nat) (h : i < l.length) :
    ((l.take i).map f ++ List.replicate (l.length - i) z).set i (f l[i]) = (l.take (i + 1)).map f ++ List.replicate (l.length - (i + 1)) z := by
  have h1 : l.length - i = (l.length - (i + 1)) + 1 := by omega
  rw [h1, List.replicate_succ]
  have h2 : ((l.take i).map f).length = i := by rw [List.length_map, List.length_take]; omega
  have h3 := set_mid ((l.take i).map f) (List.replicate (l.length - (i + 1)) z) z (f l[i])
  rw [h2] at h3
  rw [h3, List.take_succ_eq_append_getElem h, List.map_append]
  rfl
theorem fill_len {α β : Type} (l : List α) (f : α → β) (z : β) (i : Nat) (h : i ≤ l.length) : ((l.take i).map f ++ List.replicate (l.length - i) z).length = l.length := by
  rw [List.length_append, List.length_map, List.length_take, List.length_replicate]; omega
end Go.Proofs.YtcgfgodpiobcfaaW.PrintWords

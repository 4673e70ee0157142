/- Slices of whole numbers in the laws' own small functions: copied, compared, marked, held. No condition beyond each theorem's own. -/
import Derived.Test.YtpdcdajccfccbaaQD
import Derived.Test.YtpdcdajccfccbaaWKitA
namespace Go.Proofs.Ytpdcdajccfccbaa.Std
open Go.RowKit Go.Proofs.Ytpdcdajccfccbaa.Q Go.Proofs.YtpdcdajccfccbaaW.PrintWords Go.Proofs.YtpdcdajccfccbaaW.PrintLast
set_option linter.unusedSimpArgs false
set_option linter.unusedVariables false
theorem rd_at (l : List Int) (i : Nat) (h : i < l.length) : rd l (i : Int) = l[i] := by unfold rd; rw [Int.toNat_natCast, getD_lt _ _ _ h]
theorem eqIntS_refl (l : List Int) (hl : l.length ≤ 1048576) : Ev (fun k => laws_eqIntS.f k l l) true := by
  have h := down (n := l.length) (P := fun i => Ev (fun k => laws_eqIntS.l0 k l l (i : Int)) true) ?_ ?_
  · obtain ⟨K, hK⟩ := Ev.get h
    refine Ev.mk' K fun k hk => ?_
    unfold laws_eqIntS.f
    rw [if_pos rfl]
    exact hK k hk
  · refine Ev.mk' 1 fun k hk => ?_
    obtain ⟨m, rfl⟩ : ∃ m, k = m + 1 := ⟨k - 1, by omega⟩
    simp only [laws_eqIntS.l0]
    rw [if_neg (by omega)]
  · rintro i hi hev
    obtain ⟨K, hK⟩ := Ev.get hev
    refine Ev.mk' (K + 1) fun k hk => ?_
    obtain ⟨m, rfl⟩ : ∃ m, k = m + 1 := ⟨k - 1, by omega⟩
    simp only [laws_eqIntS.l0]
    rw [if_pos (by omega), if_pos (by omega), if_pos (by omega), if_pos trivial, wrap_succ i (by omega)]
    exact hK m (by omega)
theorem toIntS_id (l : List Int) (hl : l.length ≤ 1048576) : Ev (fun k => laws_toIntS.f k l) l := by
  have h := down (n := l.length) (P := fun i => Ev (fun k => laws_toIntS.l0 k l ((l.take i).map (fun x => x) ++ List.replicate (l.length - i) 0) (i : Int)) (l.map (fun x => x))) ?_ ?_
  · obtain ⟨K, hK⟩ := Ev.get h
    refine Ev.mk' K fun k hk => ?_
    unfold laws_toIntS.f
    rw [if_pos (by omega), if_pos (by omega)]
    have h2 := hK k hk
    simpa using h2
  · refine Ev.mk' 1 fun k hk => ?_
    obtain ⟨m, rfl⟩ : ∃ m, k = m + 1 := ⟨k - 1, by omega⟩
    simp only [laws_toIntS.l0]
    rw [if_neg (by omega), List.take_length]
    simp
  · rintro i hi hev
    obtain ⟨K, hK⟩ := Ev.get hev
    refine Ev.mk' (K + 1) fun k hk => ?_
    obtain ⟨m, rfl⟩ : ∃ m, k = m + 1 := ⟨k - 1, by omega⟩
    simp only [laws_toIntS.l0]
    rw [if_pos (by omega), if_pos (by omega), if_pos (by rw [fill_len l _ 0 i (by omega)]; omega), wrap_succ i (by omega), rd_at l i hi]
    have h2 := hK m (by omega)
    rw [← fill_step l (fun x => x) 0 i hi] at h2
    exact h2
def marks (c : Int) (n : Nat) : List Int := (List.range n).map fun (i : Nat) => c + (i : Int)
theorem marks_len (c : Int) (n : Nat) : (marks c n).length = n := by simp [marks]
theorem marks_succ (c : Int) (n : Nat) : marks c (n + 1) = marks c n ++ [c + (n : Int)] := by simp [marks, List.range_succ]
theorem marks_at (c : Int) (n i : Nat) (h : i < n) : rd (marks c n) (i : Int) = c + (i : Int) := by
  rw [rd_at _ i (by rw [marks_len]; exact h)]
  simp [marks]
theorem markIntS_of (l : List Int) (hl : l.length ≤ 1048576) (c : Int) (h0 : 0 ≤ c) (h1 : c ≤ 1099511627776) : Ev (fun k => laws_markIntS.f k l c) (c + (l.length : Int), marks c l.length) := by
  have h := down (n := l.length) (P := fun i => Ev (fun k => laws_markIntS.l0 k (marks c i ++ l.drop i) (c + (i : Int)) (i : Int)) (c + (l.length : Int), marks c l.length)) ?_ ?_
  · simpa [marks, laws_markIntS.f] using h
  · refine Ev.mk' 1 fun k hk => ?_
    obtain ⟨m, rfl⟩ : ∃ m, k = m + 1 := ⟨k - 1, by omega⟩
    simp only [laws_markIntS.l0]
    rw [if_neg (by rw [List.length_append, marks_len, List.length_drop]; omega), List.drop_length, List.append_nil]
  · rintro i hi hev
    obtain ⟨K, hK⟩ := Ev.get hev
    refine Ev.mk' (K + 1) fun k hk => ?_
    obtain ⟨m, rfl⟩ : ∃ m, k = m + 1 := ⟨k - 1, by omega⟩
    simp only [laws_markIntS.l0]
    have hs := set_mid (marks c i) (l.drop (i + 1)) l[i] (c + (i : Int))
    rw [marks_len, ← drop_cons l i hi, ← marks_succ] at hs
    rw [if_pos (by rw [List.length_append, marks_len, List.length_drop]; omega), if_pos (by omega), wrap_succ i (by omega), Int.toNat_natCast, hs, wrap_of (by omega) (by omega)]
    have h2 := hK m (by omega)
    rw [show c + ((i + 1 : Nat) : Int) = c + (i : Int) + 1 by omega] at h2
    exact h2
theorem heldIntS_of (n : Nat) (hl : n ≤ 1048576) (c : Int) (h0 : 0 ≤ c) (h1 : c ≤ 1099511627776) : Ev (fun k => laws_heldIntS.f k (marks c n) c) (c + (n : Int)) := by
  have h := down (n := n) (P := fun i => Ev (fun k => laws_heldIntS.l0 k (marks c n) (c + (i : Int)) (i : Int)) (c + (n : Int))) ?_ ?_
  · simpa [laws_heldIntS.f] using h
  · refine Ev.mk' 1 fun k hk => ?_
    obtain ⟨m, rfl⟩ : ∃ m, k = m + 1 := ⟨k - 1, by omega⟩
    simp only [laws_heldIntS.l0]
    rw [if_neg (by rw [marks_len]; omega)]
  · rintro i hi hev
    obtain ⟨K, hK⟩ := Ev.get hev
    refine Ev.mk' (K + 1) fun k hk => ?_
    obtain ⟨m, rfl⟩ : ∃ m, k = m + 1 := ⟨k - 1, by omega⟩
    simp only [laws_heldIntS.l0]
    rw [if_pos (by rw [marks_len]; omega), if_pos (by omega), marks_at c n i hi, if_pos rfl, wrap_succ i (by omega), wrap_of (by omega) (by omega)]
    have h2 := hK m (by omega)
    rw [show c + ((i + 1 : Nat) : Int) = c + (i : Int) + 1 by omega] at h2
    exact h2
end Go.Proofs.Ytpdcdajccfccbaa.Std

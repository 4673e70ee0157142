/- What is sent, doubled, taken leaves a bag that may be. No condition but each theorem's own. -/
import Derived.Test.YtobfeplphdnhfaaFG
namespace Go.Proofs.YtobfeplphdnhfaaW.V
open Go Go.Proofs
set_option linter.unusedSimpArgs false
set_option linter.unusedVariables false
set_option maxRecDepth 8000
set_option maxHeartbeats 4000000

theorem sendM_no {x : Bag} {l : Letter} (h : bagOk x = false) : sendM x l = ((0, []), false) := by simp [sendM, h]
theorem sendM_off {x : Bag} {l : Letter} (h : letterOk l = false) : sendM x l = ((0, []), false) := by
  cases hb : bagOk x <;> simp [sendM, h, hb]
theorem bagOk_le {x : Bag} (h : bagOk x = true) : (x.2.length : Int) ≤ x.1 := by simp [bagOk] at h; exact h.1.2
theorem bagOk_put {x : Bag} {l : Letter} (h : bagOk x = true) (hl : letterOk l = true) (hr : ¬ x.1 ≤ (x.2.length : Int)) : bagOk (x.1, x.2 ++ [l]) = true := by
  simp only [bagOk, Bool.and_eq_true, decide_eq_true_eq, List.all_append, List.all_cons, List.all_nil, Bool.and_true, List.length_append, List.length_singleton] at h ⊢
  exact ⟨⟨h.1.1, by omega⟩, h.2, hl⟩
theorem bagOk_mem {x : Bag} (h : bagOk x = true) {l : Letter} (hl : l ∈ x.2) : letterOk l = true := by
  simp only [bagOk, Bool.and_eq_true] at h
  exact List.all_eq_true.1 h.2 l hl
theorem bagOk_sub {x : Bag} (h : bagOk x = true) {ls : List Letter} (hl : ls.length ≤ x.2.length) (hs : ∀ l ∈ ls, l ∈ x.2) : bagOk (x.1, ls) = true := by
  simp only [bagOk, Bool.and_eq_true, decide_eq_true_eq] at h ⊢
  exact ⟨⟨h.1.1, by omega⟩, List.all_eq_true.2 fun l hm => List.all_eq_true.1 h.2 l (hs l hm)⟩
theorem sendM_law {x : Bag} {l : Letter} (h : bagOk x = true) (hl : letterOk l = true) : bagOk (sendM x l).1 = true ∧ ((sendM x l).1.2.length : Int) = x.2.length + (if (sendM x l).2 then 1 else 0) := by
  by_cases hr : x.1 ≤ (x.2.length : Int)
  · simp [sendM, h, hl, hr]
  · simp [sendM, h, hl, hr, bagOk_put h hl hr]
theorem dblM_law {x : Bag} (k : Int) (h : bagOk x = true) : (dblM x k).2 = (decide (0 < (x.2.length : Int)) && decide ((x.2.length : Int) < x.1)) ∧ bagOk (dblM x k).1 = true ∧ ((dblM x k).1.2.length : Int) = x.2.length + (if (dblM x k).2 then 1 else 0) := by
  by_cases hn : x.2 = []
  · have e : dblM x k = (x, false) := by simp [dblM, h, hn]
    rw [e]; simp [hn, h]
  · obtain ⟨l, hl, _, hlt⟩ := place_some (k := k) hn
    have hm := List.mem_of_getElem? hl
    by_cases hr : x.1 ≤ (x.2.length : Int)
    · have e : dblM x k = (x, false) := by simp [dblM, h, hl, hr]
      rw [e]; simp [h]; omega
    · have e : dblM x k = ((x.1, x.2 ++ [l]), true) := by simp [dblM, h, hl, hr]
      rw [e]; simp [bagOk_put h (bagOk_mem h hm) hr]; omega
theorem takeM_law {x : Bag} (k : Int) (h : bagOk x = true) : (takeM x k).2.2 = decide (0 < (x.2.length : Int)) ∧ bagOk (takeM x k).1 = true ∧ ((takeM x k).1.2.length : Int) = x.2.length - (if (takeM x k).2.2 then 1 else 0) := by
  by_cases hn : x.2 = []
  · have e : takeM x k = (x, (0, 0, ⟨#[]⟩), false) := by simp [takeM, h, hn]
    rw [e]; simp [hn, h]
  · obtain ⟨l, hl, _, hlt⟩ := place_some (k := k) hn
    have e : takeM x k = ((x.1, x.2.take (placeM k x.2.length) ++ x.2.drop (placeM k x.2.length + 1)), l, true) := by simp [takeM, h, hl]
    rw [e]
    refine ⟨by simp; omega, bagOk_sub h (by simp; omega) fun l hm => ?_, by simp; omega⟩
    rcases List.mem_append.1 hm with hm | hm
    · exact List.mem_of_mem_take hm
    · exact List.mem_of_mem_drop hm

theorem takeM_sub {x : Bag} (k : Int) (h : bagOk x = true) : (takeM x k).1.2.Sublist x.2 := by
  by_cases hn : x.2 = []
  · have e : takeM x k = (x, (0, 0, ⟨#[]⟩), false) := by simp [takeM, h, hn]
    rw [e]; exact List.Sublist.refl _
  · obtain ⟨l, hl, _, hlt⟩ := place_some (k := k) hn
    have e : takeM x k = ((x.1, x.2.take (placeM k x.2.length) ++ x.2.drop (placeM k x.2.length + 1)), l, true) := by simp [takeM, h, hl]
    rw [e, ← List.eraseIdx_eq_take_drop_succ]
    exact List.eraseIdx_sublist _ _
end Go.Proofs.YtobfeplphdnhfaaW.V


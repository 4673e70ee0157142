/- The law of bags: what was put in is taken out. No condition but each theorem's own. -/
import Derived.Test.YtobfeplphdnhfaaFG
namespace Go.Proofs.YtobfeplphdnhfaaW.V
open Go Go.Proofs
set_option linter.unusedSimpArgs false
set_option linter.unusedVariables false
set_option maxRecDepth 8000
set_option maxHeartbeats 4000000


theorem sendM_snd {x : Bag} {l : Letter} (h : (sendM x l).2 = true) : (sendM x l).1 = (x.1, x.2 ++ [l]) ∧ bagOk x = true ∧ letterOk l = true ∧ ¬ x.1 ≤ (x.2.length : Int) := by
  unfold sendM at h ⊢
  split at h
  · split at h
    · split at h
      · cases h
      · rename_i h1 h2 h3
        simp [h1, h2, h3]
    · cases h
  · cases h
theorem dblM_snd {x : Bag} {k : Int} (h : (dblM x k).2 = true) : ∃ l, x.2[placeM k x.2.length]? = some l ∧ (dblM x k).1 = (x.1, x.2 ++ [l]) ∧ bagOk x = true ∧ ¬ x.1 ≤ (x.2.length : Int) := by
  unfold dblM at h ⊢
  split at h
  · split at h
    · rename_i h1 _ l hl
      split at h
      · cases h
      · rename_i h3
        exact ⟨l, hl, by simp [h1, hl, h3], h1, h3⟩
    · cases h
  · cases h
theorem bagOk_put' {x : Bag} {l : Letter} (h : bagOk x = true) (hl : letterOk l = true) (hr : ¬ x.1 ≤ (x.2.length : Int)) : bagOk (x.1, x.2 ++ [l]) = true := by
  simp only [bagOk, Bool.and_eq_true, decide_eq_true_eq, List.all_append, List.all_cons, List.all_nil, Bool.and_true, List.length_append, List.length_singleton] at h ⊢
  exact ⟨⟨h.1.1, by omega⟩, h.2, hl⟩
theorem takeM_last {x : Bag} {l : Letter} {k : Int} (h : bagOk (x.1, x.2 ++ [l]) = true) (hk : placeM k ((x.2.length + 1 : Nat) : Int) = x.2.length) : takeM (x.1, x.2 ++ [l]) k = (x, l, true) := by
  have e : (x.2 ++ [l]).length = x.2.length + 1 := by simp
  have e2 : (x.2 ++ [l])[x.2.length]? = some l := by simp
  simp only [takeM, h, if_true, e, hk, e2]
  simp
theorem place_len {n : Nat} (hn : n ≤ 1000000) : placeM (n : Int) ((n + 1 : Nat) : Int) = n := by
  unfold placeM modulo
  have h1 : (n : Int).tmod ((n + 1 : Nat) : Int) = n := by rw [Int.tmod_eq_emod_of_nonneg (by omega)]; exact Int.emod_eq_of_lt (by omega) (by omega)
  have h2 : ((n : Int) + ((n + 1 : Nat) : Int)).tmod ((n + 1 : Nat) : Int) = n := by
    rw [Int.tmod_eq_emod_of_nonneg (by omega), Int.add_emod_right]; exact Int.emod_eq_of_lt (by omega) (by omega)
  rw [h1, h2]; simp
theorem place_m1 {n : Nat} : placeM (-1) ((n + 1 : Nat) : Int) = n := by
  unfold placeM modulo
  rcases Nat.eq_zero_or_pos n with h | h
  · subst h; rfl
  · have h1 : (-1 : Int).tmod ((n + 1 : Nat) : Int) = -1 := by
      rw [Int.neg_tmod, Int.tmod_eq_emod_of_nonneg (by omega), Int.emod_eq_of_lt (by omega) (by omega)]
    have h2 : (-1 + ((n + 1 : Nat) : Int)).tmod ((n + 1 : Nat) : Int) = n := by
      rw [Int.tmod_eq_emod_of_nonneg (by omega), Int.emod_eq_of_lt (by omega) (by omega)]; omega
    rw [h1, h2]; simp

def H_laws_FnBagBack : Hint := { fs := [(10, MTake), (13, MSend), (14, MSend), (16, MDbl), (26, MSameBag), (27, MDbl), (28, MTake)], kp := [(0, [0]), (1, [0]), (2, []), (3, [0]), (4, [0, 3, 4]), (5, [0, 3, 4, 5, 6]), (6, [0, 3, 4, 5, 6, 8]), (7, []), (8, [0, 3, 4, 5, 6]), (9, [0, 3, 4, 5]), (10, [0, 3, 4, 9, 10, 11]), (11, []), (12, [0, 3]), (13, [3, 12]), (14, [3, 12, 13, 14]), (15, [3, 12, 13, 14, 16]), (16, []), (17, [3, 12, 13, 14]), (18, []), (19, [3, 12, 13]), (20, [3, 12, 17, 18, 19]), (21, [3, 17, 18, 19, 21])], an := [], rs := [(12, RDrawBagSend), (15, RAt)] }
attribute [go_sem] H_laws_FnBagBack
theorem ok_H_laws_FnBagBack : H_laws_FnBagBack.ok Try.prog := AllOk.okR (.cons ok_impl_BagTake (.cons ok_impl_BagSend (.cons ok_spec_BagSend (.cons ok_impl_BagDouble (.cons ok_laws_sameBag (.cons ok_spec_BagDouble (.cons ok_spec_BagTake .nil))))))) (.cons ok_spec_DrawBagSend (.cons ok_laws_at .nil)) mix
theorem f_FnBagBack (b : List UInt8) (_ : b.length ≤ maxLen ∧ ∀ x ∈ b, True) : VFun Try.prog 6 [(eList cU8).enc b] [] (eBool.enc true) [] := by
  refine VFun_pure (n := 114) (rs := [.tmp 2]) Try.func6 rfl rfl rfl rfl H_laws_FnBagBack ok_H_laws_FnBagBack _ _ (Nat.le_of_ble_eq_true rfl) (by kernel_rfl) ?_
  simp only [go_sem, ↓reduceIte, reduceCtorEq, Nat.reduceAdd, Nat.reduceMul, Nat.reduceEqDiff, Nat.reduceSub, Nat.reduceLT, Nat.reduceLeDiff, Nat.reduceAnd, Nat.reduceShiftRight, Nat.reduceBEq, Nat.reduceBNe, Nat.reduceBneDiff, Nat.reduceBeqDiff, Int.reduceToNat, Int.reduceLE, Int.reduceLT, Int.reduceEq]
  refine ite_intro (fun _ => trivial) fun h => ⟨by omega, ?_⟩
  rintro ⟨x, l⟩ ⟨g1, -, -⟩
  dsimp only at g1 ⊢
  have g2 : x.2.length ≤ 999999 := by omega
  have key : ∀ k, (dblM x k).2 = true → takeM (dblM x k).1 (-1) = (x, (takeM x k).2.1, true) ∧ (dblM x k).1.2.length ≤ 999999 := fun k hk => by
    obtain ⟨l0, hl, e, hb, hr⟩ := dblM_snd hk
    have hm : letterOk l0 = true := by
      have hb' := hb
      simp only [bagOk, Bool.and_eq_true] at hb'
      exact List.all_eq_true.1 hb'.2 l0 (List.mem_of_getElem? hl)
    have h2 : (takeM x k).2.1 = l0 := by simp [takeM, hb, hl]
    rw [e, h2]
    exact ⟨takeM_last (bagOk_put' hb hm hr) place_m1, by simp; omega⟩
  refine ⟨g2, g2, ?_⟩
  simp only [beq_self_eq_true, Bool.true_eq_false, if_false]
  cases hs : (sendM x l).2 with
  | false =>
    simp only [Bool.false_eq_true, if_false]
    · refine ⟨by omega, fun y => ⟨g2, g2, ?_⟩⟩
      generalize IntKind.i64.wrap (IntKind.i64.wrap ↑y.toNat - 100) = k
      cases hd : (dblM x k).2 with
      | false => simp
      | true =>
        obtain ⟨t1, t2⟩ := key k hd
        rw [t1]
        simp [t2, g2]
        omega
  | true =>
    obtain ⟨e, hb, hl, hr⟩ := sendM_snd hs
    have ht : takeM (sendM x l).1 (x.2.length : Int) = (x, l, true) := by
      rw [e]
      exact takeM_last (bagOk_put' hb hl hr) (place_len (by omega))
    have h3 : (sendM x l).1.2.length ≤ 999999 := by rw [e]; simp; omega
    rw [ht]
    simp only [if_true, decide_true, Bool.and_true, not_true_eq_false, if_false]
    refine ⟨h3, by omega, ?_⟩
    · refine ⟨by omega, fun y => ⟨g2, g2, ?_⟩⟩
      generalize IntKind.i64.wrap (IntKind.i64.wrap ↑y.toNat - 100) = k
      cases hd : (dblM x k).2 with
      | false => simp
      | true =>
        obtain ⟨t1, t2⟩ := key k hd
        rw [t1]
        simp [t2, g2]
        omega

end Go.Proofs.YtobfeplphdnhfaaW.V


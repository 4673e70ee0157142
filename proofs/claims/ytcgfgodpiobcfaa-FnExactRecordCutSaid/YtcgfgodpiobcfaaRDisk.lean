/- Disks and raw writes: the laws' own small functions over them, and what DiskWrite of the program and of the reference answer. No condition beyond each theorem's own. -/
import Derived.Test.YtcgfgodpiobcfaaRD
import Derived.Test.YtcgfgodpiobcfaaWKitA
namespace Go.Proofs.Ytcgfgodpiobcfaa.Disk
open Go.RowKit Go.Proofs.Ytcgfgodpiobcfaa.R Go.Proofs.YtcgfgodpiobcfaaW.PrintWords Go.Proofs.YtcgfgodpiobcfaaW.PrintLast
set_option linter.unusedSimpArgs false
set_option linter.unusedVariables false
theorem rdL (l : List S95) (i : Nat) (h : i < l.length) : rd_T95 l (i : Int) = l[i] := by unfold rd_T95; rw [Int.toNat_natCast, getD_lt _ _ _ h]
theorem rdR (l : List S92) (i : Nat) (h : i < l.length) : rd_T92 l (i : Int) = l[i] := by unfold rd_T92; rw [Int.toNat_natCast, getD_lt _ _ _ h]
def cv (x : S95) : S92 := ⟨x.f0, x.f1, x.f2⟩
theorem sz (l : List S95) (hl : l.length ≤ maxLen) : ∃ r, laws_szRawS.f l 1048576 = some r ∧ (r < 0 ∨ 0 ≤ r ∧ l.length ≤ 1048576) := by
  unfold maxLen at hl
  have hw : wrap64 (1048576 - (l.length : Int)) = 1048576 - (l.length : Int) := wrap_of (by omega) (by omega)
  unfold laws_szRawS.f
  rw [hw]
  by_cases h : 1048576 - (l.length : Int) < 0
  · rw [if_pos h]; exact ⟨-1, rfl, .inl (by omega)⟩
  · rw [if_neg h]; exact ⟨_, rfl, .inr ⟨by omega, by omega⟩⟩
theorem toR (l : List S95) (hl : l.length ≤ 1048576) : Ev (fun k => laws_toRawS.f k l) (l.map cv) := by
  have h := down (n := l.length) (P := fun i => Ev (fun k => laws_toRawS.l0 k l ((l.take i).map cv ++ List.replicate (l.length - i) z92) (i : Int)) (l.map cv)) ?_ ?_
  · obtain ⟨K, hK⟩ := Ev.get h
    refine Ev.mk' K fun k hk => ?_
    unfold laws_toRawS.f
    rw [if_pos (by omega), if_pos (by omega)]
    have h2 := hK k hk
    simpa using h2
  · refine Ev.mk' 1 fun k hk => ?_
    obtain ⟨m, rfl⟩ : ∃ m, k = m + 1 := ⟨k - 1, by omega⟩
    simp only [laws_toRawS.l0]
    rw [if_neg (by omega), List.take_length]
    simp
  · rintro i hi hev
    obtain ⟨K, hK⟩ := Ev.get hev
    refine Ev.mk' (K + 1) fun k hk => ?_
    obtain ⟨m, rfl⟩ : ∃ m, k = m + 1 := ⟨k - 1, by omega⟩
    simp only [laws_toRawS.l0, laws_toRaw.f, Option.bind_some]
    rw [if_pos (by omega), if_pos (by omega), if_pos (by rw [fill_len l cv z92 i (by omega)]; omega), wrap_succ i (by omega), rdL l i hi]
    have h2 := hK m (by omega)
    rw [← fill_step l cv z92 i hi] at h2
    exact h2
theorem eqR (l : List S92) (hl : l.length ≤ 1048576) : Ev (fun k => laws_eqRawS.f k l l) true := by
  have h := down (n := l.length) (P := fun i => Ev (fun k => laws_eqRawS.l0 k l l (i : Int)) true) ?_ ?_
  · obtain ⟨K, hK⟩ := Ev.get h
    refine Ev.mk' K fun k hk => ?_
    unfold laws_eqRawS.f
    rw [if_pos rfl]
    exact hK k hk
  · refine Ev.mk' 1 fun k hk => ?_
    obtain ⟨m, rfl⟩ : ∃ m, k = m + 1 := ⟨k - 1, by omega⟩
    simp only [laws_eqRawS.l0]
    rw [if_neg (by omega)]
  · rintro i hi hev
    obtain ⟨K, hK⟩ := Ev.get hev
    refine Ev.mk' (K + 1) fun k hk => ?_
    obtain ⟨m, rfl⟩ : ∃ m, k = m + 1 := ⟨k - 1, by omega⟩
    simp only [laws_eqRawS.l0, laws_eqRaw.f]
    rw [if_pos (by omega), if_pos (by omega), if_pos (by omega), if_pos trivial, if_pos trivial, if_pos trivial, Option.bind_some, if_pos rfl, wrap_succ i (by omega)]
    exact hK m (by omega)
theorem eqD (a0 a1 a2 a3 a4 a5 a6 b0 b1 b2 b3 b4 b5 b6 : Int) : laws_eqDisk.f a0 a1 a2 a3 a4 a5 a6 b0 b1 b2 b3 b4 b5 b6 a0 a1 a2 a3 a4 a5 a6 b0 b1 b2 b3 b4 b5 b6 = some true := by
  simp [laws_eqDisk.f, laws_eqSlot.f, laws_eqDigest.f]
/-- A slot of seven words with one put. -/
def put (a0 a1 a2 a3 a4 a5 a6 i v : Int) : Int × Int × Int × Int × Int × Int × Int :=
  (if i = 0 then v else a0, if i = 1 then v else a1, if i = 2 then v else a2, if i = 3 then v else a3, if i = 4 then v else a4, if i = 5 then v else a5, if i = 6 then v else a6)
theorem l7Put_of (a0 a1 a2 a3 a4 a5 a6 i v : Int) (k : Nat) : spec_l7Put.f (k + 5) a0 a1 a2 a3 a4 a5 a6 i v = some (put a0 a1 a2 a3 a4 a5 a6 i v) := by
  unfold spec_l7Put.f put
  simp only [spec_l7Put.j0, spec_l7Put.j1, spec_l7Put.j2, spec_l7Put.j3, spec_l7Put.j4]
  by_cases h0 : i = 0
  · subst h0; simp
  by_cases h1 : i = 1
  · subst h1; simp
  by_cases h2 : i = 2
  · subst h2; simp
  by_cases h3 : i = 3
  · subst h3; simp
  by_cases h4 : i = 4
  · subst h4; simp
  by_cases h5 : i = 5
  · subst h5; simp
  by_cases h6 : i = 6
  · subst h6; simp
  simp [h0, h1, h2, h3, h4, h5, h6]
theorem l7Put_ge (a0 a1 a2 a3 a4 a5 a6 i v : Int) (k : Nat) (h : 5 ≤ k) : spec_l7Put.f k a0 a1 a2 a3 a4 a5 a6 i v = some (put a0 a1 a2 a3 a4 a5 a6 i v) := by
  obtain ⟨m, rfl⟩ : ∃ m, k = m + 5 := ⟨k - 5, by omega⟩
  exact l7Put_of a0 a1 a2 a3 a4 a5 a6 i v m
theorem step_of (a0 a1 a2 a3 a4 a5 a6 b0 b1 b2 b3 b4 b5 b6 : Int) (x : S92) : disk_step.f [a0, a1, a2, a3, a4, a5, a6, b0, b1, b2, b3, b4, b5, b6] x =
    (let p := if x.f0 = 1 then put a0 a1 a2 a3 a4 a5 a6 x.f1 x.f2 else (a0, a1, a2, a3, a4, a5, a6); let q := if x.f0 = 2 then put b0 b1 b2 b3 b4 b5 b6 x.f1 x.f2 else (b0, b1, b2, b3, b4, b5, b6)
     [p.1, p.2.1, p.2.2.1, p.2.2.2.1, p.2.2.2.2.1, p.2.2.2.2.2.1, p.2.2.2.2.2.2, q.1, q.2.1, q.2.2.1, q.2.2.2.1, q.2.2.2.2.1, q.2.2.2.2.2.1, q.2.2.2.2.2.2]) := by
  obtain ⟨s, i, v⟩ := x
  unfold disk_step.f put
  by_cases hin : 0 ≤ i ∧ i ≤ 6
  · rw [if_pos hin]
    have hi : i = 0 ∨ i = 1 ∨ i = 2 ∨ i = 3 ∨ i = 4 ∨ i = 5 ∨ i = 6 := by omega
    by_cases h1 : s = 1
    · subst h1
      rcases hi with rfl | rfl | rfl | rfl | rfl | rfl | rfl <;> simp
    · by_cases h2 : s = 2
      · subst h2
        rcases hi with rfl | rfl | rfl | rfl | rfl | rfl | rfl <;> simp
      · simp [h1, h2]
  · rw [if_neg hin]
    have e0 : ¬ i = 0 := by omega
    have e1 : ¬ i = 1 := by omega
    have e2 : ¬ i = 2 := by omega
    have e3 : ¬ i = 3 := by omega
    have e4 : ¬ i = 4 := by omega
    have e5 : ¬ i = 5 := by omega
    have e6 : ¬ i = 6 := by omega
    simp [e0, e1, e2, e3, e4, e5, e6]
set_option maxHeartbeats 2000000 in
theorem specL (l : List S92) (hl : l.length ≤ 1048576) (n : Nat) : ∀ (i : Nat) (a0 a1 a2 a3 a4 a5 a6 b0 b1 b2 b3 b4 b5 b6 : Int), i + n = l.length →
    Ev (fun k => spec_DiskWrite.l0 k l (i : Int) a0 a1 a2 a3 a4 a5 a6 b0 b1 b2 b3 b4 b5 b6) (disk_out.f ((l.drop i).foldl disk_step.f [a0, a1, a2, a3, a4, a5, a6, b0, b1, b2, b3, b4, b5, b6])) := by
  induction n with
  | zero =>
    intro i a0 a1 a2 a3 a4 a5 a6 b0 b1 b2 b3 b4 b5 b6 hi
    refine Ev.mk' 1 fun k hk => ?_
    obtain ⟨m, rfl⟩ : ∃ m, k = m + 1 := ⟨k - 1, by omega⟩
    simp only [spec_DiskWrite.l0]
    rw [if_neg (by omega), List.drop_of_length_le (by omega)]
    rfl
  | succ n ih =>
    intro i a0 a1 a2 a3 a4 a5 a6 b0 b1 b2 b3 b4 b5 b6 hi
    have hlt : i < l.length := by omega
    obtain ⟨x, hx⟩ : ∃ x, l[i] = x := ⟨_, rfl⟩
    obtain ⟨p, hp⟩ : ∃ p, p = (if x.f0 = 1 then put a0 a1 a2 a3 a4 a5 a6 x.f1 x.f2 else (a0, a1, a2, a3, a4, a5, a6)) := ⟨_, rfl⟩
    obtain ⟨q, hq⟩ : ∃ q, q = (if x.f0 = 2 then put b0 b1 b2 b3 b4 b5 b6 x.f1 x.f2 else (b0, b1, b2, b3, b4, b5, b6)) := ⟨_, rfl⟩
    obtain ⟨K, hK⟩ := Ev.get (ih (i + 1) p.1 p.2.1 p.2.2.1 p.2.2.2.1 p.2.2.2.2.1 p.2.2.2.2.2.1 p.2.2.2.2.2.2 q.1 q.2.1 q.2.2.1 q.2.2.2.1 q.2.2.2.2.1 q.2.2.2.2.2.1 q.2.2.2.2.2.2 (by omega))
    have hd : l.drop i = x :: l.drop (i + 1) := by rw [← hx]; exact List.drop_eq_getElem_cons hlt
    have hs := step_of a0 a1 a2 a3 a4 a5 a6 b0 b1 b2 b3 b4 b5 b6 x
    simp only [← hp, ← hq] at hs
    rw [hd, List.foldl_cons, hs]
    refine Ev.mk' (K + 6) fun k hk => ?_
    obtain ⟨m, rfl⟩ : ∃ m, k = m + 1 := ⟨k - 1, by omega⟩
    have h2 := hK m (by omega)
    have hm : 5 ≤ m := by omega
    have hw : wrap64 ((i : Int) + 1) = ((i + 1 : Nat) : Int) := wrap_succ i (by omega)
    have hc0 : (i : Int) < (l.length : Int) := by omega
    have hc1 : (0 : Int) ≤ (i : Int) := by omega
    have hr : rd_T92 l (i : Int) = x := (rdR l i hlt).trans hx
    unfold spec_DiskWrite.l0
    rw [if_pos hc0, if_pos hc1, hr, hw]
    clear hK hs hd hx ih
    generalize (Nat.cast (i + 1) : Int) = ii at h2 ⊢
    by_cases h1 : x.f0 = 1
    · have h3 : ¬ x.f0 = 2 := by omega
      simp only [if_pos h1, if_neg h3] at hp hq ⊢
      rw [l7Put_ge _ _ _ _ _ _ _ _ _ _ hm, Option.bind_some, ← hp]
      subst hq
      exact h2
    · by_cases h3 : x.f0 = 2
      · simp only [if_neg h1, if_pos h3] at hp hq ⊢
        rw [l7Put_ge _ _ _ _ _ _ _ _ _ _ hm, Option.bind_some, ← hq]
        subst hp
        exact h2
      · simp only [if_neg h1, if_neg h3] at hp hq ⊢
        subst hp hq
        exact h2
/-- What a disk is behind raw writes. -/
def disk (a0 a1 a2 a3 a4 a5 a6 b0 b1 b2 b3 b4 b5 b6 : Int) (l : List S92) : Int × Int × Int × Int × Int × Int × Int × Int × Int × Int × Int × Int × Int × Int := disk_out.f (l.foldl disk_step.f [a0, a1, a2, a3, a4, a5, a6, b0, b1, b2, b3, b4, b5, b6])
theorem spec_disk (a0 a1 a2 a3 a4 a5 a6 b0 b1 b2 b3 b4 b5 b6 : Int) (l : List S92) (hl : l.length ≤ 1048576) : Ev (fun k => spec_DiskWrite.f k a0 a1 a2 a3 a4 a5 a6 b0 b1 b2 b3 b4 b5 b6 l) (disk a0 a1 a2 a3 a4 a5 a6 b0 b1 b2 b3 b4 b5 b6 l) :=
  specL l hl l.length 0 a0 a1 a2 a3 a4 a5 a6 b0 b1 b2 b3 b4 b5 b6 (by omega)
theorem impl_disk (a0 a1 a2 a3 a4 a5 a6 b0 b1 b2 b3 b4 b5 b6 : Int) (l : List S92) (hl : l.length ≤ 1048576) : impl_DiskWrite.f a0 a1 a2 a3 a4 a5 a6 b0 b1 b2 b3 b4 b5 b6 l = some (disk a0 a1 a2 a3 a4 a5 a6 b0 b1 b2 b3 b4 b5 b6 l) := by
  unfold impl_DiskWrite.f
  rw [if_pos (by omega)]; rfl
end Go.Proofs.Ytcgfgodpiobcfaa.Disk

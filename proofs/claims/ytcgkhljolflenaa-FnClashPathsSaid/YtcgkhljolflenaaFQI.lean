/- Plain laws: two paths that make one root and whose rows part make a clash. No condition but each theorem's own. -/
import Derived.Test.YtcgkhljolflenaaFQH
namespace Go.Proofs.YtcgkhljolflenaaW.V
open Go Go.Proofs
set_option linter.unusedSimpArgs false
set_option linter.unusedVariables false
set_option maxRecDepth 8000
set_option maxHeartbeats 4000000


theorem be8_inj {a b : UInt64} (h : be8 a = be8 b) : a = b := by
  unfold be8 at h
  simp only [List.cons.injEq, and_true] at h
  obtain ⟨h1, h2, h3, h4, h5, h6, h7, h8⟩ := h
  apply UInt64.toNat_inj.1
  have e : ∀ {x y : UInt64} {k : UInt64}, (x >>> k).toUInt8 = (y >>> k).toUInt8 → x.toNat / 2 ^ (k.toNat % 64) % 256 = y.toNat / 2 ^ (k.toNat % 64) % 256 := fun {x y k} h => by
    have := congrArg UInt8.toNat h
    simpa only [UInt64.toNat_toUInt8, UInt64.toNat_shiftRight, Nat.shiftRight_eq_div_pow] using this
  have h1 := e h1
  have h2 := e h2
  have h3 := e h3
  have h4 := e h4
  have h5 := e h5
  have h6 := e h6
  have h7 := e h7
  have h8 : a.toNat % 256 = b.toNat % 256 := by simpa only [UInt64.toNat_toUInt8] using congrArg UInt8.toNat h8
  simp only [show (56 : UInt64).toNat % 64 = 56 from rfl, show (48 : UInt64).toNat % 64 = 48 from rfl, show (40 : UInt64).toNat % 64 = 40 from rfl, show (32 : UInt64).toNat % 64 = 32 from rfl, show (24 : UInt64).toNat % 64 = 24 from rfl, show (16 : UInt64).toNat % 64 = 16 from rfl, show (8 : UInt64).toNat % 64 = 8 from rfl] at h1 h2 h3 h4 h5 h6 h7
  have ha := a.toNat_lt
  have hb := b.toNat_lt
  omega
theorem app8 {a b : UInt64} {l m : List UInt8} (h : be8 a ++ l = be8 b ++ m) : a = b ∧ l = m := by
  obtain ⟨h1, h2⟩ := List.append_inj h rfl
  exact ⟨be8_inj h1, h2⟩
theorem dBy_inj {a b : Digest} (h : dBy a = dBy b) : a = b := by
  obtain ⟨a1, a2, a3, a4⟩ := a
  obtain ⟨b1, b2, b3, b4⟩ := b
  unfold dBy at h
  dsimp only at h
  simp only [List.append_assoc] at h
  obtain ⟨e1, h⟩ := app8 h
  obtain ⟨e2, h⟩ := app8 h
  obtain ⟨e3, h⟩ := app8 h
  have e4 := be8_inj h
  rw [e1, e2, e3, e4]
theorem pairT_inj {a b c d : Digest} (h : pairT a b = pairT c d) : a = c ∧ b = d := by
  unfold pairT at h
  have h1 : (1 :: (dBy a ++ dBy b)) = (1 :: (dBy c ++ dBy d)) := by
    have := congrArg (fun s : ByteArray => s.data.toList) h
    simpa using this
  rw [List.cons.injEq] at h1
  obtain ⟨h2, h3⟩ := List.append_inj h1.2 (by rw [dBy_len, dBy_len])
  exact ⟨dBy_inj h2, dBy_inj h3⟩
theorem leafT_inj {x y : ByteArray} (h : leafT x = leafT y) : x = y := by
  have := congrArg (fun s : ByteArray => s.data.toList) h
  simp only [leafT, ByteArray.data_append, Array.toList_append] at this
  exact ByteArray.ext (Array.toList_inj.1 (List.append_cancel_left this))
theorem stepP_inj {b : Bool} {u v x y : Digest} (h : stepP b u x = stepP b v y) : u = v ∧ x = y := by
  unfold stepP at h
  cases b
  · exact ⟨(Prod.mk.inj h).2, (Prod.mk.inj h).1⟩
  · exact ⟨(Prod.mk.inj h).1, (Prod.mk.inj h).2⟩

theorem firstM_no : ∀ {a b : List ByteArray}, a.length = b.length → (firstM a b).2 = false → a = b
  | [], [], _, _ => rfl
  | x :: a, y :: b, hl, h => by
    by_cases hxy : x = y
    · subst hxy
      rw [firstM_eq] at h
      rw [firstM_no (by simpa using hl) h]
    · rw [firstM_ne hxy] at h; cases h
theorem firstM_same : ∀ (a : List ByteArray), firstM a a = ((⟨#[]⟩, ⟨#[]⟩), false)
  | [] => firstM_l
  | x :: a => by rw [firstM_eq]; exact firstM_same a
theorem firstM_at : ∀ {a b : List ByteArray} {c : Clash}, firstM a b = (c, true) → ∃ k : Nat, a[k]? = some c.1 ∧ b[k]? = some c.2 ∧ ¬ c.1 = c.2 ∧ ∀ j, j < k → a[j]? = b[j]?
  | [], _, c, h => by rw [firstM_l] at h; cases h
  | _ :: _, [], c, h => by rw [firstM_r] at h; cases h
  | x :: a, y :: b, c, h => by
    by_cases hxy : x = y
    · subst hxy
      rw [firstM_eq] at h
      obtain ⟨k, h1, h2, h3, h4⟩ := firstM_at h
      refine ⟨k + 1, h1, h2, h3, fun j hj => ?_⟩
      cases j with
      | zero => rfl
      | succ j => exact h4 j (by omega)
    · rw [firstM_ne hxy] at h
      cases h
      exact ⟨0, rfl, rfl, hxy, fun j hj => absurd hj (by omega)⟩

theorem textAt_size (bs : List Bool) (p : List Digest) (x : ByteArray) (h : x.size ≤ 41) (j : Nat) : (textAt bs p x j).size ≤ 65 := by
  cases j with
  | zero => show (leafT x).size ≤ 65; rw [leafT_size]; omega
  | succ j => exact Nat.le_of_eq (pairT_size _ _)
theorem row_inj {bs : List Bool} {p q : List Digest} {x y : ByteArray} {m : Nat} (hp : p.length = m) (hq : q.length = m)
    (h : textsM (foldP bs p (leafH x) m).1 ++ [leafT x] = textsM (foldP bs q (leafH y) m).1 ++ [leafT y]) : x = y ∧ p = q := by
  have ht : ∀ j, j ≤ m → textAt bs p x j = textAt bs q y j := fun j hj => by
    have h1 := row_at bs p x m (m - j) (by omega)
    have h2 := row_at bs q y m (m - j) (by omega)
    rw [h, h2, show m - (m - j) = j by omega] at h1
    exact (Option.some.inj h1).symm
  refine ⟨leafT_inj (ht 0 (Nat.zero_le _)), List.ext_getElem? fun j => ?_⟩
  rcases Nat.lt_or_ge j m with hj | hj
  · have h1 := (stepP_inj (Prod.ext (pairT_inj (ht (j + 1) hj)).1 (pairT_inj (ht (j + 1) hj)).2)).2
    rw [List.getD_eq_getElem?_getD, List.getD_eq_getElem?_getD, List.getElem?_eq_getElem (by omega), List.getElem?_eq_getElem (by omega)] at h1
    rw [List.getElem?_eq_getElem (by omega), List.getElem?_eq_getElem (by omega)]
    exact congrArg some h1
  · rw [List.getElem?_eq_none (by omega), List.getElem?_eq_none (by omega)]
theorem row_clash {bs : List Bool} {p q : List Digest} {x y : ByteArray} {m : Nat} {c : Clash} (hx : x.size ≤ 41) (hy : y.size ≤ 41)
    (hr : (foldP bs p (leafH x) m).2 = (foldP bs q (leafH y) m).2)
    (h : firstM (textsM (foldP bs p (leafH x) m).1 ++ [leafT x]) (textsM (foldP bs q (leafH y) m).1 ++ [leafT y]) = (c, true)) :
    (c.1.size ≤ 65 ∧ c.2.size ≤ 65) ∧ clashM c = true := by
  obtain ⟨k, h1, h2, h3, h4⟩ := firstM_at h
  have hk : k ≤ m := by
    have := (List.getElem?_eq_some_iff.1 h1).1
    rw [row_len] at this; omega
  rw [row_at bs p x m k hk] at h1
  rw [row_at bs q y m k hk] at h2
  have e1 := Option.some.inj h1
  have e2 := Option.some.inj h2
  have s1 : c.1.size ≤ 65 := by rw [← e1]; exact textAt_size _ _ _ hx _
  have s2 : c.2.size ≤ 65 := by rw [← e2]; exact textAt_size _ _ _ hy _
  have hh : hashOf c.1 = hashOf c.2 := by
    rw [← e1, ← e2, textAt_hash, textAt_hash]
    rcases Nat.eq_zero_or_pos k with rfl | hk0
    · exact hr
    · have h5 := h4 (k - 1) (by omega)
      rw [row_at bs p x m (k - 1) (by omega), row_at bs q y m (k - 1) (by omega), show m - (k - 1) = (m - k) + 1 by omega] at h5
      have h6 := pairT_inj (Option.some.inj h5)
      exact (stepP_inj (Prod.ext h6.1 h6.2)).1
  refine ⟨⟨s1, s2⟩, ?_⟩
  unfold clashM
  rw [decide_eq_true h3, decide_eq_true (show ((c.1.size : Nat) : Int) ≤ 20000 by omega), decide_eq_true (show ((c.2.size : Nat) : Int) ≤ 20000 by omega), decide_eq_true hh]; rfl

/-- Two paths at one place: their rows part just where leaves or paths differ; where they make one root, what is told is a clash. -/
theorem paths_part {n i : Int} {x y : ByteArray} {px py : List Digest} (h1 : pathB n i x px = true) (h2 : pathB n i y py = true) :
    (firstM (rowM n i x px).1 (rowM n i y py).1).2 = decide (¬ (x = y ∧ px = py)) := by
  have hx := pathB_iff h1
  have hy := pathB_iff h2
  have r1 : rowM n i x px = (textsM (foldP (dirsM n.toNat i.toNat).reverse px (leafH x) px.length).1 ++ [leafT x], true) := if_pos h1
  have r2 : rowM n i y py = (textsM (foldP (dirsM n.toNat i.toNat).reverse py (leafH y) py.length).1 ++ [leafT y], true) := if_pos h2
  rw [r1, r2]
  have hl : py.length = px.length := by rw [hx.2.2.2, hy.2.2.2]
  rw [hl]
  cases hf : (firstM (textsM (foldP (dirsM n.toNat i.toNat).reverse px (leafH x) px.length).1 ++ [leafT x]) (textsM (foldP (dirsM n.toNat i.toNat).reverse py (leafH y) px.length).1 ++ [leafT y])).2 with
  | false => exact (decide_eq_false (not_not_intro (row_inj rfl hl (firstM_no (by rw [row_len, row_len]) hf)))).symm
  | true =>
    refine (decide_eq_true ?_).symm
    rintro ⟨rfl, rfl⟩
    rw [firstM_same] at hf
    cases hf
theorem paths_clash {n i : Int} {x y : ByteArray} {px py : List Digest} {c : Clash} (h : clashP n i x px y py = (c, true)) : (c.1.size ≤ 65 ∧ c.2.size ≤ 65) ∧ clashM c = true := by
  unfold clashP at h
  split at h
  · rename_i hh
    obtain ⟨h1, h2, h3⟩ := hh
    have hx := pathB_iff h1
    have hy := pathB_iff h2
    have r1 : rowM n i x px = (textsM (foldP (dirsM n.toNat i.toNat).reverse px (leafH x) px.length).1 ++ [leafT x], true) := if_pos h1
    have r2 : rowM n i y py = (textsM (foldP (dirsM n.toNat i.toNat).reverse py (leafH y) py.length).1 ++ [leafT y], true) := if_pos h2
    have t1 : rootP n i x px = ((foldP (dirsM n.toNat i.toNat).reverse px (leafH x) px.length).2, true) := if_pos h1
    have t2 : rootP n i y py = ((foldP (dirsM n.toNat i.toNat).reverse py (leafH y) py.length).2, true) := if_pos h2
    have hl : py.length = px.length := by rw [hx.2.2.2, hy.2.2.2]
    rw [r1, r2, hl] at h
    rw [t1, t2, hl] at h3
    exact row_clash (by omega) (by omega) h3 h
  · cases h
theorem firstM_zero : ∀ {a b : List ByteArray}, (firstM a b).2 = false → firstM a b = ((⟨#[]⟩, ⟨#[]⟩), false)
  | [], _, _ => firstM_l
  | _ :: _, [], _ => firstM_r
  | x :: a, y :: b, h => by
    by_cases hxy : x = y
    · subst hxy; rw [firstM_eq] at h ⊢; exact firstM_zero h
    · rw [firstM_ne hxy] at h; cases h
/-- What clashP says, in three values. -/
theorem clashP_cases (n i : Int) (x : ByteArray) (px : List Digest) (y : ByteArray) (py : List Digest) :
    (clashP n i x px y py).2 = (pathB n i x px && (pathB n i y py && (decide ((rootP n i x px).1 = (rootP n i y py).1) && (firstM (rowM n i x px).1 (rowM n i y py).1).2))) ∧
    ((clashP n i x px y py).2 = false → (clashP n i x px y py).1 = ((⟨#[]⟩, ⟨#[]⟩) : Clash)) ∧
    ((clashP n i x px y py).2 = true → (clashP n i x px y py).1 = (firstM (rowM n i x px).1 (rowM n i y py).1).1) := by
  unfold clashP
  by_cases h : pathB n i x px = true ∧ pathB n i y py = true ∧ (rootP n i x px).1 = (rootP n i y py).1
  · rw [if_pos h, h.1, h.2.1, decide_eq_true h.2.2]
    exact ⟨by rw [Bool.true_and, Bool.true_and, Bool.true_and], fun h => by rw [firstM_zero h], fun _ => rfl⟩
  · rw [if_neg h]
    refine ⟨?_, fun _ => rfl, fun h => by cases h⟩
    symm
    rw [Bool.and_eq_false_iff, Bool.and_eq_false_iff, Bool.and_eq_false_iff]
    cases h1 : pathB n i x px with
    | false => exact .inl rfl
    | true => cases h2 : pathB n i y py with
      | false => exact .inr (.inl rfl)
      | true => exact .inr (.inr (.inl (decide_eq_false fun h3 => h ⟨h1, h2, h3⟩)))
end Go.Proofs.YtcgkhljolflenaaW.V


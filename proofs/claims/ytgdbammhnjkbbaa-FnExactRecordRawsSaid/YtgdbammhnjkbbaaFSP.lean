/- Disks: what a part of the writes leaves to be read. No condition but each theorem's own. -/
import Derived.Test.YtgdbammhnjkbbaaFSD
namespace Go.Proofs.YtgdbammhnjkbbaaW.V
open Go Go.Proofs
set_option linter.unusedSimpArgs false
set_option linter.unusedVariables false
set_option maxRecDepth 8000
set_option maxHeartbeats 4000000

theorem sumM_ne (s : Slot) : ¬ (0 : UInt64) = sumM s := fun h => by
  have h1 : (sumM s).toBitVec.getLsbD 0 = true := by
    simp [sumM]
  rw [← h] at h1
  simp at h1
theorem sumM_put (a b : UInt64) (s : UInt64 × UInt64 × Digest) : sumM (a, s) = sumM (b, s) := rfl
theorem ok0 {s : Slot} (h : s.1 = 0) : okM s = false := by
  unfold okM
  rw [h, decide_eq_false (sumM_ne s)]
  rfl

theorem readM_one {d : Disk} (h : (readM d).2 = 1) : okM d.1 = true ∧ (readM d).1 = (((d.1.2.1.toNat : Int), (d.1.2.2.1.toNat : Int), d.1.2.2.2) : Record) := by
  unfold readM at h ⊢
  split at h
  · rename_i c; rw [if_pos c]; exact ⟨c.1, rfl⟩
  · split at h <;> simp at h
theorem readM_two {d : Disk} (h : (readM d).2 = 2) : okM d.2 = true ∧ (readM d).1 = (((d.2.2.1.toNat : Int), (d.2.2.2.1.toNat : Int), d.2.2.2.2) : Record) := by
  unfold readM at h ⊢
  split at h
  · simp at h
  · rename_i c
    split at h
    · rename_i c2; rw [if_neg c, if_pos c2]; exact ⟨c2, rfl⟩
    · simp at h
theorem readM_none {d : Disk} (h : (readM d).2 = 0) : okM d.1 = false ∧ okM d.2 = false := by
  unfold readM at h
  split at h
  · simp at h
  · rename_i c
    split at h
    · simp at h
    · rename_i c2
      refine ⟨?_, by simpa using c2⟩
      cases h1 : okM d.1 with
      | false => rfl
      | true => exact absurd ⟨h1, fun h => absurd h c2⟩ c
theorem readM_l {a b : Slot} (ha : okM a = true) (hb : okM b = false) : readM (a, b) = (((a.2.1.toNat : Int), (a.2.2.1.toNat : Int), a.2.2.2), 1) := by
  simp [readM, ha, hb]
theorem readM_r {a b : Slot} (ha : okM a = false) (hb : okM b = true) : readM (a, b) = (((b.2.1.toNat : Int), (b.2.2.1.toNat : Int), b.2.2.2), 2) := by
  simp [readM, ha, hb]
theorem readM_0 {a b : Slot} (ha : okM a = false) (hb : okM b = false) : readM (a, b) = ((0, 0, (0, 0, 0, 0)), 0) := by
  simp [readM, ha, hb]

def selM (d : Disk) : Slot := if toM d = 1 then d.1 else d.2
/-- With the slot that is written to. -/
def newD (d : Disk) (s : Slot) : Disk := if toM d = 1 then (s, d.2) else (d.1, s)
/-- With the slot that is not read broken, the same is read. -/
theorem read_broken {d : Disk} {s : Slot} (hs : s.1 = 0) : readM (newD d s) = readM d := by
  unfold newD
  have hk := ok0 hs
  have hb := (readM_bd d).2.2.2.2
  by_cases h1 : (readM d).2 = 1
  · have e : toM d = 2 := if_pos h1
    obtain ⟨o1, o2⟩ := readM_one h1
    rw [e, if_neg (by decide), readM_l o1 hk, ← o2, ← h1]
  · have e : toM d = 1 := if_neg h1
    rw [e, if_pos rfl]
    by_cases h2 : (readM d).2 = 2
    · obtain ⟨o1, o2⟩ := readM_two h2
      rw [readM_r hk o1, ← o2, ← h2]
    · have h0 : (readM d).2 = 0 := by omega
      obtain ⟨o1, o2⟩ := readM_none h0
      have e2 : d = (d.1, d.2) := rfl
      rw [readM_0 hk o2]
      conv => rhs; rw [e2, readM_0 o1 o2]

/-- One word behind the other. -/
def putL (s : Slot) (l : List Raw) : Slot := l.foldl (fun s r => putM s r.2.1 r.2.2) s
theorem writeM_1 {l : List Raw} (h : ∀ r ∈ l, r.1 = 1) : ∀ (d : Disk), writeM d l = (putL d.1 l, d.2) := by
  induction l with
  | nil => intro d; rfl
  | cons r l ih =>
    intro d
    have h1 : r.1 = 1 := h r (by simp)
    show writeM (wr1 d r) l = _
    rw [ih (fun r hr => h r (by simp [hr]))]
    simp [wr1, h1, putL]
theorem writeM_2 {l : List Raw} (h : ∀ r ∈ l, r.1 = 2) : ∀ (d : Disk), writeM d l = (d.1, putL d.2 l) := by
  induction l with
  | nil => intro d; rfl
  | cons r l ih =>
    intro d
    have h1 : r.1 = 2 := h r (by simp)
    show writeM (wr1 d r) l = _
    rw [ih (fun r hr => h r (by simp [hr]))]
    simp [wr1, h1, putL]
theorem writeM_app (d : Disk) (a b : List Raw) : writeM d (a ++ b) = writeM (writeM d a) b := List.foldl_append ..
theorem putL_app (s : Slot) (a b : List Raw) : putL s (a ++ b) = putL (putL s a) b := List.foldl_append ..

theorem newD_sel (d : Disk) : newD d (selM d) = d := by
  unfold newD selM
  split <;> rfl
theorem raws_to {d : Disk} {n : Int} {root : Digest} : ∀ r ∈ rawsM d n root, r.1 = toM d := by
  intro r hr
  unfold rawsM at hr
  split at hr
  · simp only [List.mem_cons, List.not_mem_nil, or_false] at hr
    obtain rfl | rfl | rfl | rfl | rfl | rfl | rfl | rfl := hr
    all_goals rfl
  · simp at hr
/-- The slot to be written, with a part of the words. -/
theorem raws_at (d : Disk) (n : Int) (root : Digest) (c : Int) : cutM d (rawsM d n root) c = newD d (putL (selM d) ((rawsM d n root).take c.toNat)) := by
  have ht' : ∀ r ∈ (rawsM d n root).take c.toNat, r.1 = toM d := fun r hr => raws_to r (List.mem_of_mem_take hr)
  unfold newD selM
  by_cases h : toM d = 1
  · rw [if_pos h, if_pos h, cutM, writeM_1 (fun r hr => by rw [ht' r hr, h])]
  · have h2 : toM d = 2 := by unfold toM at h ⊢; split <;> simp_all
    rw [if_neg h, if_neg h, cutM, writeM_2 (fun r hr => by rw [ht' r hr, h2])]

theorem putM_zero {s : Slot} {w : Int} (h : s.1 = 0) : (putM s w 0).1 = 0 := by
  unfold putM
  (repeat' split) <;> first | rfl | exact h
theorem putL_zero : ∀ {l : List Raw} {s : Slot}, (∀ r ∈ l, r.2.2 = 0) → s.1 = 0 → (putL s l).1 = 0
  | [], _, _, h => h
  | r :: l, s, h1, h2 => putL_zero (l := l) (fun r hr => h1 r (by simp [hr])) (by show (putM s r.2.1 r.2.2).1 = 0; rw [h1 r (by simp)]; exact putM_zero h2)
theorem putM_far {s : Slot} {w : Int} {v : UInt64} (h : ¬ w = 0) : (putM s w v).1 = s.1 := by
  unfold putM
  rw [if_neg h]
  (repeat' split) <;> rfl

/-- While not all is written, what is read stays. -/
theorem read_part {d : Disk} {n : Int} {root : Digest} {c : Int} (hc : c < 8) : readM (cutM d (rawsM d n root) c) = readM d := by
  by_cases h : (1 ≤ n ∧ n ≤ 256) ∧ (readM d).1.1 < 1000000000
  · have hR := rawsM_at (root := root) h.1 h.2 rfl
    by_cases h0 : c.toNat = 0
    · rw [raws_at, h0, List.take_zero]
      exact congrArg readM (newD_sel d)
    · have hk : c.toNat = 1 ∨ c.toNat = 2 ∨ c.toNat = 3 ∨ c.toNat = 4 ∨ c.toNat = 5 ∨ c.toNat = 6 ∨ c.toNat = 7 := by omega
      rw [raws_at]
      refine read_broken ?_
      rw [hR]
      obtain e | e | e | e | e | e | e := hk
      all_goals rw [e]; simp [putL, putM]
  · rw [rawsM_no h, cutM, List.take_nil]; rfl

theorem uOf_in {x : Int} (h0 : 0 ≤ x) (h1 : x < 18446744073709551616) : ((uOf x).toNat : Int) = x := by rw [uOf_nat]; omega

/-- When all is written, it is read. -/
theorem read_whole {d : Disk} {n : Int} {root : Digest} {c : Int} (h : (1 ≤ n ∧ n ≤ 256) ∧ (readM d).1.1 < 1000000000) (hc : 8 ≤ c) : readM (cutM d (rawsM d n root) c) = (((readM d).1.1 + 1, n, root), toM d) := by
  have hR := rawsM_at (root := root) h.1 h.2 rfl
  have hb := readM_bd d
  have hs : putL (selM d) ((rawsM d n root).take c.toNat) = (sumM (newM d n root), uOf ((readM d).1.1 + 1), uOf n, root) := by
    rw [hR, List.take_of_length_le (by simp; omega)]
    simp [putL, putM]
  have u1 : ((uOf ((readM d).1.1 + 1)).toNat : Int) = (readM d).1.1 + 1 := uOf_in (by omega) (by omega)
  have u2 : ((uOf n).toNat : Int) = n := uOf_in (by omega) (by omega)
  have hok : okM (sumM (newM d n root), uOf ((readM d).1.1 + 1), uOf n, root) = true := by
    have e : sumM (newM d n root) = sumM (sumM (newM d n root), uOf ((readM d).1.1 + 1), uOf n, root) := rfl
    unfold okM
    rw [decide_eq_true e, u1, u2]
    simp; omega
  rw [raws_at, hs]
  unfold newD
  generalize hS : (sumM (newM d n root), uOf ((readM d).1.1 + 1), uOf n, root) = S at hok
  have s1 : (S.2.1.toNat : Int) = (readM d).1.1 + 1 := by rw [← hS]; exact u1
  have s2 : (S.2.2.1.toNat : Int) = n := by rw [← hS]; exact u2
  have s3 : S.2.2.2 = root := by rw [← hS]
  clear hS hs hR
  by_cases h1 : (readM d).2 = 1
  · have e : toM d = 2 := if_pos h1
    obtain ⟨o1, o2⟩ := readM_one h1
    have o3 : (readM d).1.1 = d.1.2.1.toNat := by rw [o2]
    rw [e, if_neg (by decide)]
    unfold readM
    rw [if_neg (fun hh => by have := hh.2 hok; simp only at this; omega), if_pos hok]
    simp only [s1, s2, s3]
    rfl
  · have e : toM d = 1 := if_neg h1
    rw [e, if_pos rfl]
    have hle : okM d.2 = true → (d.2.2.1.toNat : Int) ≤ S.2.1.toNat := fun hd => by
      by_cases h2 : (readM d).2 = 2
      · obtain ⟨o1, o2⟩ := readM_two h2
        have o3 : (readM d).1.1 = d.2.2.1.toNat := by rw [o2]
        omega
      · have h0 : (readM d).2 = 0 := by omega
        rw [(readM_none h0).2] at hd; cases hd
    unfold readM
    rw [if_pos ⟨hok, hle⟩]
    simp only [s1, s2, s3]
    rfl

/-! ### Mending -/
theorem clrN_app (a : Int) (s : Slot) : clrN a s 7 = clr a 0 s.1 ++ (clr a 1 s.2.1 ++ clr a 2 s.2.2.1 ++ clr a 3 s.2.2.2.1 ++ clr a 4 s.2.2.2.2.1 ++ clr a 5 s.2.2.2.2.2.1 ++ clr a 6 s.2.2.2.2.2.2) := by
  simp [clrN, wsM]
theorem clr_mem {a k : Int} {w : UInt64} {r : Raw} (h : r ∈ clr a k w) : r = (a, k, 0) := by
  unfold clr at h
  split at h
  · simp at h
  · simpa using h
theorem clrN_zero {a : Int} {s : Slot} {r : Raw} (h : r ∈ clrN a s 7) : r.1 = a ∧ r.2.2 = 0 := by
  rw [clrN_app] at h
  simp only [List.mem_append] at h
  obtain h | h | h | h | h | h | h : r ∈ clr a 0 s.1 ∨ r ∈ clr a 1 s.2.1 ∨ r ∈ clr a 2 s.2.2.1 ∨ r ∈ clr a 3 s.2.2.2.1 ∨ r ∈ clr a 4 s.2.2.2.2.1 ∨ r ∈ clr a 5 s.2.2.2.2.2.1 ∨ r ∈ clr a 6 s.2.2.2.2.2.2 := by
    rcases h with h | ((((h | h) | h) | h) | h) | h <;> simp [h]
  all_goals rw [clr_mem h]; exact ⟨rfl, rfl⟩
theorem clearM_mem {a : Int} {s : Slot} {r : Raw} (h : r ∈ clearM a s) : r.1 = a ∧ r.2.2 = 0 := by
  unfold clearM at h
  split at h
  · simp at h
  · exact clrN_zero h
/-- A slot that is not ok stays so while it is cleared. -/
theorem clear_part (a : Int) (s : Slot) (k : Nat) (h : okM s = false) : okM (putL s ((clearM a s).take k)) = false := by
  rw [clearM, if_neg (by simp [h])]
  by_cases h0 : s.1 = 0
  · exact ok0 (putL_zero (fun r hr => (clrN_zero (List.mem_of_mem_take hr)).2) h0)
  · cases k with
    | zero => exact h
    | succ k =>
      rw [clrN_app, clr_yes h0, List.singleton_append, List.take_succ_cons]
      refine ok0 (putL_zero (s := putM s 0 0) (fun r hr => ?_) rfl)
      refine (clrN_zero (a := a) (s := s) (r := r) ?_).2
      rw [clrN_app]
      exact List.mem_append_right _ (List.mem_of_mem_take hr)
theorem clear_same (a : Int) (s : Slot) (k : Nat) (h : okM s = true) : putL s ((clearM a s).take k) = s := by
  rw [clearM, if_pos h, List.take_nil]; rfl
/-- A part of the mending. -/
theorem mend_cut (d : Disk) (c : Int) : cutM d (mendM d) c = (putL d.1 ((clearM 1 d.1).take c.toNat), putL d.2 ((clearM 2 d.2).take (c.toNat - (clearM 1 d.1).length))) := by
  rw [cutM, mendM, List.take_append, writeM_app, writeM_1 (fun r hr => (clearM_mem (List.mem_of_mem_take hr)).1), writeM_2 (fun r hr => (clearM_mem (List.mem_of_mem_take hr)).1)]
theorem read_same {a b a' b' : Slot} (h1 : okM a = true → a' = a) (h2 : okM a = false → okM a' = false) (h3 : okM b = true → b' = b) (h4 : okM b = false → okM b' = false) : readM (a', b') = readM (a, b) := by
  cases ha : okM a with
  | true =>
    rw [h1 ha]
    cases hb : okM b with
    | true => rw [h3 hb]
    | false => rw [readM_l ha hb, readM_l ha (h4 hb)]
  | false =>
    cases hb : okM b with
    | true => rw [h3 hb, readM_r ha hb, readM_r (h2 ha) hb]
    | false => rw [readM_0 ha hb, readM_0 (h2 ha) (h4 hb)]
/-- While it is mended, what is read stays. -/
theorem read_mend (d : Disk) (c : Int) : readM (cutM d (mendM d) c) = readM d := by
  rw [mend_cut]
  have e : d = (d.1, d.2) := rfl
  conv => rhs; rw [e]
  exact read_same (clear_same 1 d.1 _) (clear_part 1 d.1 _) (clear_same 2 d.2 _) (clear_part 2 d.2 _)

theorem putL_clr {s t : Slot} {a : Int} {k : Nat} (w : UInt64) (h : w = 0 → putM s k 0 = s) : putL s (clr a k w) = putM s k 0 := by
  unfold clr
  split
  · rename_i hw; rw [h hw]; rfl
  · rfl
/-- A slot that is not ok is nought when it is cleared. -/
theorem clear_whole (a : Int) (s : Slot) (h : okM s = false) : putL s (clearM a s) = (0, 0, 0, 0, 0, 0, 0) := by
  rw [clearM, if_neg (by simp [h])]
  obtain ⟨w0, w1, w2, w3, w4, w5, w6⟩ := s
  rw [clrN_app]
  simp only [putL_app]
  have e0 : putL (w0, w1, w2, w3, w4, w5, w6) (clr a 0 w0) = (0, w1, w2, w3, w4, w5, w6) := by
    by_cases hw : w0 = 0
    · rw [clr_no hw, hw]; rfl
    · rw [clr_yes hw]; rfl
  have e1 : putL (0, w1, w2, w3, w4, w5, w6) (clr a 1 w1) = (0, 0, w2, w3, w4, w5, w6) := by
    by_cases hw : w1 = 0
    · rw [clr_no hw, hw]; rfl
    · rw [clr_yes hw]; rfl
  have e2 : putL (0, 0, w2, w3, w4, w5, w6) (clr a 2 w2) = (0, 0, 0, w3, w4, w5, w6) := by
    by_cases hw : w2 = 0
    · rw [clr_no hw, hw]; rfl
    · rw [clr_yes hw]; rfl
  have e3 : putL (0, 0, 0, w3, w4, w5, w6) (clr a 3 w3) = (0, 0, 0, 0, w4, w5, w6) := by
    by_cases hw : w3 = 0
    · rw [clr_no hw, hw]; rfl
    · rw [clr_yes hw]; rfl
  have e4 : putL (0, 0, 0, 0, w4, w5, w6) (clr a 4 w4) = (0, 0, 0, 0, 0, w5, w6) := by
    by_cases hw : w4 = 0
    · rw [clr_no hw, hw]; rfl
    · rw [clr_yes hw]; rfl
  have e5 : putL (0, 0, 0, 0, 0, w5, w6) (clr a 5 w5) = (0, 0, 0, 0, 0, 0, w6) := by
    by_cases hw : w5 = 0
    · rw [clr_no hw, hw]; rfl
    · rw [clr_yes hw]; rfl
  have e6 : putL (0, 0, 0, 0, 0, 0, w6) (clr a 6 w6) = (0, 0, 0, 0, 0, 0, 0) := by
    by_cases hw : w6 = 0
    · rw [clr_no hw, hw]; rfl
    · rw [clr_yes hw]; rfl
  rw [e0, e1, e2, e3, e4, e5, e6]
/-- When all is mended. -/
theorem mend_whole (d : Disk) : writeM d (mendM d) = (if okM d.1 then d.1 else (0, 0, 0, 0, 0, 0, 0), if okM d.2 then d.2 else (0, 0, 0, 0, 0, 0, 0)) := by
  rw [mendM, writeM_app, writeM_1 (fun r hr => (clearM_mem hr).1), writeM_2 (fun r hr => (clearM_mem hr).1)]
  dsimp only
  cases h1 : okM d.1 <;> cases h2 : okM d.2
  · rw [clear_whole 1 d.1 h1, clear_whole 2 d.2 h2]; rfl
  · rw [clear_whole 1 d.1 h1, clearM, if_pos h2]; rfl
  · rw [clear_whole 2 d.2 h2, clearM, if_pos h1]; rfl
  · rw [clearM, clearM, if_pos h1, if_pos h2]; rfl
theorem ok_nought : okM (0, 0, 0, 0, 0, 0, 0) = false := ok0 rfl
theorem clear_nought (a : Int) (s : Slot) (h : okM s = true ∨ s = (0, 0, 0, 0, 0, 0, 0)) : clearM a s = [] := by
  rcases h with h | h
  · rw [clearM, if_pos h]
  · subst h
    rw [clearM, if_neg (by rw [ok_nought]; decide)]; rfl
theorem mend_once (d : Disk) : mendM (writeM d (mendM d)) = [] ∧ ((okM (writeM d (mendM d)).1 = true ∨ (writeM d (mendM d)).1 = (0, 0, 0, 0, 0, 0, 0)) ∧ (okM (writeM d (mendM d)).2 = true ∨ (writeM d (mendM d)).2 = (0, 0, 0, 0, 0, 0, 0))) := by
  have key : ∀ s : Slot, okM (if okM s then s else (0, 0, 0, 0, 0, 0, 0)) = true ∨ (if okM s then s else (0, 0, 0, 0, 0, 0, 0)) = ((0, 0, 0, 0, 0, 0, 0) : Slot) := fun s => by
    by_cases h : okM s = true
    · rw [if_pos h]; exact .inl h
    · rw [if_neg h]; exact .inr rfl
  rw [mend_whole]
  refine ⟨?_, key _, key _⟩
  rw [mendM, clear_nought _ _ (key _), clear_nought _ _ (key _)]; rfl

abbrev bxDigest (x : Digest) : Root := .bx [[.c (.v (.int .u64 x.1.toNat)), .c (.v (.int .u64 x.2.1.toNat)), .c (.v (.int .u64 x.2.2.1.toNat)), .c (.v (.int .u64 x.2.2.2.toNat))]]
abbrev bxRecord (x : Record) : Root := .bx [[.c (.v (.int .i64 x.1)), .c (.v (.int .i64 x.2.1)), .c (.v (.int .u64 x.2.2.1.toNat)), .c (.v (.int .u64 x.2.2.2.1.toNat)), .c (.v (.int .u64 x.2.2.2.2.1.toNat)), .c (.v (.int .u64 x.2.2.2.2.2.toNat))]]
attribute [go_sem] bxDigest bxRecord

end Go.Proofs.YtgdbammhnjkbbaaW.V


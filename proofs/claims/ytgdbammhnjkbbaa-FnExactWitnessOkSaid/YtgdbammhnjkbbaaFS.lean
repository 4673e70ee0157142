/- Functions: slots, disks, records. No condition but each theorem's own. -/
import Derived.Test.YtgdbammhnjkbbaaFUH
import Derived.Test.YtgdbammhnjkbbaaFRt
namespace Go.Proofs.YtgdbammhnjkbbaaW.V
open Go Go.Proofs
set_option linter.unusedSimpArgs false
set_option linter.unusedVariables false
set_option maxRecDepth 8000
set_option maxHeartbeats 4000000

abbrev Slot := UInt64 × UInt64 × UInt64 × Digest
abbrev cSlot : Cd Slot := cPair cU64 (cPair cU64 (cPair cU64 cDigest))
abbrev Disk := Slot × Slot
abbrev cDisk : Cd Disk := cPair cSlot cSlot
abbrev Raw := Int × Int × UInt64
abbrev cRaw : Cd Raw := cPair (cInt .i64) (cPair (cInt .i64) cU64)
abbrev Record := Int × Int × Digest
abbrev cRecord : Cd Record := cPair (cInt .i64) (cPair (cInt .i64) cDigest)
attribute [go_sem] cSlot cDisk cRaw cRecord

def dBytes (d : Digest) : List UInt8 := be8 d.1 ++ be8 d.2.1 ++ be8 d.2.2.1 ++ be8 d.2.2.2
def sumM (s : Slot) : UInt64 := (hashOf ⟨(be8 s.2.1 ++ be8 s.2.2.1 ++ dBytes s.2.2.2).toArray⟩).1 ||| 1

theorem u64_or1 (x : UInt64) : orI .u64 x.toNat 1 = ((x ||| 1).toNat : Int) := u64_or x 1

def H_spec_SlotSum : Hint := { fs := [(50, MHashOf), (51, MBytes), (52, MHashBytes)], kp := [(0, [0]), (1, [1])], an := [(1, [0, 1, 3, 0, 8, 31, 63, 0, 128, 447, 1023, 2047, 4095, 8191, 16383])] }
attribute [go_sem] H_spec_SlotSum
theorem ok_H_spec_SlotSum : H_spec_SlotSum.ok Try.prog := AllOk.okR (.cons ok_spec_HashOf (.cons ok_spec_l1Bytes (.cons ok_spec_HashBytes .nil))) .nil mix
theorem f_spec_SlotSum (s : Slot) : VFun Try.prog 31 [(CE.st cSlot).enc s] [] (eU64.enc (sumM s)) [] := by
  obtain ⟨a, b, c, d, e, f, g⟩ := s
  refine VFun_pure (n := 17) (rs := [.tmp 2]) Try.func31 rfl rfl rfl rfl H_spec_SlotSum ok_H_spec_SlotSum _ _ (Nat.le_of_ble_eq_true rfl) (by kernel_rfl) ?_
  have e8 : ∀ x, (be8 x).length = 8 := fun _ => rfl
  simp only [go_sem, ↓reduceIte, reduceCtorEq, Nat.reduceAdd, Nat.reduceMul, Nat.reduceEqDiff, Nat.reduceSub, Nat.reduceLT, Nat.reduceLeDiff, Nat.reduceAnd, Nat.reduceShiftRight, Nat.reduceBEq, Nat.reduceBNe, Nat.reduceBneDiff, Nat.reduceBeqDiff, Int.reduceToNat, Int.reduceLE, Int.reduceLT, Int.reduceEq, e8, List.length_append]
  rw [u64_or1, cU64_dec]
  rfl
abbrev MSum : FM := .f1 (CE.st cSlot) eU64.enc sumM (fun _ => True)
attribute [go_sem] MSum
theorem ok_spec_SlotSum : MSum.ok Try.prog 31 := FM.f1_ok fun s _ => f_spec_SlotSum s

/-- Boxes whose cells stand for themselves. -/
def plainD : List D → Prop
  | [] => True
  | .c _ :: l => plainD l
  | _ :: _ => False
attribute [go_sem] plainD
theorem plainD_ref : ∀ {l : List D}, plainD l → l.flatMap refD = []
  | [], _ => rfl
  | .c _ :: l, h => by rw [List.flatMap_cons, plainD_ref (l := l) h]; rfl
theorem plainD_pass (a : List Nm) (g : Nm → Option Root) (b : Bool) : ∀ {l : List D}, plainD l → mapO (passD a g b) l = some l
  | [], _ => rfl
  | .c x :: l, h => by
    have := plainD_pass a g b (l := l) h
    simp only [mapO, this, passD]

def H_impl_Slot_words : Hint := { fs := [], kp := [(0, [0]), (1, [0])], an := [(1, [0, 1, 3, 0, 8, 24, 0, 64, 192, 0, 512, 1536, 3584, 0, 8192, 24576, 57344, 0, 131072, 393216, 917504, 0, 2097152, 6291456, 14680064, 33554431, 67108863])], own := true }
attribute [go_sem] H_impl_Slot_words
theorem ok_H_impl_Slot_words : H_impl_Slot_words.ok Try.prog := AllOk.okR .nil .nil mix
theorem f_words (ds : List D) (o : Nat) (h : o + 7 ≤ ds.length) (hp : plainD ds) : VFun Try.prog 35 [.x (.o (.p (0, 0) 0 o 1))] [some (.bx [ds])] (.x (.o (.h (0, 1) 0 7 7))) [some (.bx [ds]), some (.bx [[.p (0, 0) 0 o 1], [.p (0, 0) 0 (o + 1) 1], [.p (0, 0) 0 (o + 2) 1], [.p (0, 0) 0 (o + 3) 1], [.p (0, 0) 0 (o + 4) 1], [.p (0, 0) 0 (o + 5) 1], [.p (0, 0) 0 (o + 6) 1]])] := by
  refine VFun_own (rin := [.bx [ds]]) (n := 29) (rs := [.tmp 2]) Try.func35 rfl rfl rfl rfl H_impl_Slot_words ok_H_impl_Slot_words (Nat.le_of_ble_eq_true rfl) (by kernel_rfl) ?_
  simp only [go_sem, ↓reduceIte, reduceCtorEq, Nat.reduceAdd, Nat.reduceMul, Nat.reduceEqDiff, Nat.reduceSub, Nat.reduceLT, Nat.reduceLeDiff, Nat.reduceAnd, Nat.reduceShiftRight, Nat.reduceBEq, Nat.reduceBNe, Nat.reduceBneDiff, Nat.reduceBeqDiff, Int.reduceToNat, Int.reduceLE, Int.reduceLT, Int.reduceEq, plainD_ref hp, plainD_pass _ _ _ hp, Nat.add_assoc, Nat.reduceAdd, Nat.add_zero]
abbrev MWords : FM := ⟨[0], fun args rin => match args, rin with
  | [.x (.o (.p (0, 0) 0 o 1))], [.bx [ds]] => some (.x (.o (.h (0, 1) 0 7 7)), [some (.bx [ds]), some (.bx [[.p (0, 0) 0 o 1], [.p (0, 0) 0 (o + 1) 1], [.p (0, 0) 0 (o + 2) 1], [.p (0, 0) 0 (o + 3) 1], [.p (0, 0) 0 (o + 4) 1], [.p (0, 0) 0 (o + 5) 1], [.p (0, 0) 0 (o + 6) 1]])], o + 7 ≤ ds.length ∧ plainD ds)
  | _, _ => none⟩
attribute [go_sem] MWords
theorem ok_impl_Slot_words : MWords.ok Try.prog 35 := by
  intro args rin res rout p hm hp
  simp only [MWords] at hm
  split at hm
  · cases hm; exact f_words _ _ hp.1 hp.2
  · cases hm

def H_impl_SlotSum : Hint := { fs := [(35, MWords), (53, MAppend), (54, MHashOf)], kp := [(0, [0]), (1, [1]), (2, [1, 3]), (3, [3, 7, 8, 9]), (4, [3, 7, 8, 9]), (5, [3, 5, 7, 8, 9]), (6, [3, 7, 8, 9]), (7, [3])], an := [(5, [0, 0, 0, 4, 12, 31, 63])], nl := [(2, [(3, 1)])] }
attribute [go_sem] H_impl_SlotSum
theorem ok_H_impl_SlotSum : H_impl_SlotSum.ok Try.prog := AllOk.okR (.cons ok_impl_Slot_words (.cons ok_encoding_binary_bigEndian_AppendUint64 (.cons ok_impl_HashOf .nil))) .nil mix
theorem f_impl_SlotSum (s : Slot) : VFun Try.prog 34 [(CE.st cSlot).enc s] [] (eU64.enc (sumM s)) [] := by
  obtain ⟨a, b, c, d, e, f, g⟩ := s
  refine VFun_pure (n := 25) (rs := [.tmp 2]) Try.func34 rfl rfl rfl rfl H_impl_SlotSum ok_H_impl_SlotSum _ _ (Nat.le_of_ble_eq_true rfl) (by kernel_rfl) ?_
  have e8 : ∀ x, (be8 x).length = 8 := fun _ => rfl
  simp only [go_sem, ↓reduceIte, reduceCtorEq, Nat.reduceAdd, Nat.reduceMul, Nat.reduceEqDiff, Nat.reduceSub, Nat.reduceLT, Nat.reduceLeDiff, Nat.reduceAnd, Nat.reduceShiftRight, Nat.reduceBEq, Nat.reduceBNe, Nat.reduceBneDiff, Nat.reduceBeqDiff, Int.reduceToNat, Int.reduceLE, Int.reduceLT, Int.reduceEq, e8, List.length_append]
  let L : Nat → List UInt8 := fun k => match k with
    | 0 => []
    | 1 => be8 b
    | 2 => be8 b ++ be8 c
    | 3 => be8 b ++ be8 c ++ be8 d
    | 4 => be8 b ++ be8 c ++ be8 d ++ be8 e
    | 5 => be8 b ++ be8 c ++ be8 d ++ be8 e ++ be8 f
    | _ => be8 b ++ be8 c ++ be8 d ++ be8 e ++ be8 f ++ be8 g
  have hl : ∀ k, (L k).length ≤ 48 := fun k => by
    dsimp only [L]
    split <;> simp [e8]
  have h1 : L 0 ++ be8 b = L 1 := rfl
  have h2 : L 1 ++ be8 c = L 2 := rfl
  have h3 : L 2 ++ be8 d = L 3 := rfl
  have h4 : L 3 ++ be8 e = L 4 := rfl
  have h5 : L 4 ++ be8 f = L 5 := rfl
  have h6 : L 5 ++ be8 g = L 6 := rfl
  have h7 : L 6 = be8 b ++ be8 c ++ (be8 d ++ be8 e ++ be8 f ++ be8 g) := by simp [L]
  have h0 : L 0 = [] := rfl
  clear_value L
  refine ⟨by omega, ?_⟩
  refine LoopV.go (H := H_impl_SlotSum) ok_H_impl_SlotSum (by kernel_rfl) (fun k : Nat => ⟨[(3, .x (.o (.h (1, 100) 0 (L k).length (L k).length))), (7, .x (.o (.h (1, 101) 1 6 7))), (8, sc (.int .i64 6)), (9, sc (.int .i64 k))], [((1, 100), .row 1 ((L k).map cU8.enc)), ((1, 101), .bx [[.p (1, 102) 0 0 1], [.p (1, 102) 0 1 1], [.p (1, 102) 0 2 1], [.p (1, 102) 0 3 1], [.p (1, 102) 0 4 1], [.p (1, 102) 0 5 1], [.p (1, 102) 0 6 1]]), ((1, 102), .bx [[.c (.v (.int .u64 a.toNat)), .c (.v (.int .u64 b.toNat)), .c (.v (.int .u64 c.toNat)), .c (.v (.int .u64 d.toNat)), .c (.v (.int .u64 e.toNat)), .c (.v (.int .u64 f.toNat)), .c (.v (.int .u64 g.toNat))]])], 2⟩) (fun k => 6 - k) (fun k => k ≤ 6) ?_ 0 (by omega) (by rw [h0]; rfl)
  intro k hk
  have hlk := hl k
  obtain rfl | rfl | rfl | rfl | rfl | rfl | rfl : k = 0 ∨ k = 1 ∨ k = 2 ∨ k = 3 ∨ k = 4 ∨ k = 5 ∨ k = 6 := by omega
  · simp only [go_sem, ↓reduceIte, reduceCtorEq, Nat.reduceAdd, Nat.reduceMul, Nat.reduceEqDiff, Nat.reduceSub, Nat.reduceLT, Nat.reduceLeDiff, Nat.reduceAnd, Nat.reduceShiftRight, Nat.reduceBEq, Nat.reduceBNe, Nat.reduceBneDiff, Nat.reduceBeqDiff, Int.reduceToNat, Int.reduceLE, Int.reduceLT, Int.reduceEq, h1]
    exact ⟨by omega, 1, by omega, by omega, by rw [← List.length_append, h1]; rfl⟩
  · simp only [go_sem, ↓reduceIte, reduceCtorEq, Nat.reduceAdd, Nat.reduceMul, Nat.reduceEqDiff, Nat.reduceSub, Nat.reduceLT, Nat.reduceLeDiff, Nat.reduceAnd, Nat.reduceShiftRight, Nat.reduceBEq, Nat.reduceBNe, Nat.reduceBneDiff, Nat.reduceBeqDiff, Int.reduceToNat, Int.reduceLE, Int.reduceLT, Int.reduceEq, h2]
    exact ⟨by omega, 2, by omega, by omega, by rw [← List.length_append, h2]; rfl⟩
  · simp only [go_sem, ↓reduceIte, reduceCtorEq, Nat.reduceAdd, Nat.reduceMul, Nat.reduceEqDiff, Nat.reduceSub, Nat.reduceLT, Nat.reduceLeDiff, Nat.reduceAnd, Nat.reduceShiftRight, Nat.reduceBEq, Nat.reduceBNe, Nat.reduceBneDiff, Nat.reduceBeqDiff, Int.reduceToNat, Int.reduceLE, Int.reduceLT, Int.reduceEq, h3]
    exact ⟨by omega, 3, by omega, by omega, by rw [← List.length_append, h3]; rfl⟩
  · simp only [go_sem, ↓reduceIte, reduceCtorEq, Nat.reduceAdd, Nat.reduceMul, Nat.reduceEqDiff, Nat.reduceSub, Nat.reduceLT, Nat.reduceLeDiff, Nat.reduceAnd, Nat.reduceShiftRight, Nat.reduceBEq, Nat.reduceBNe, Nat.reduceBneDiff, Nat.reduceBeqDiff, Int.reduceToNat, Int.reduceLE, Int.reduceLT, Int.reduceEq, h4]
    exact ⟨by omega, 4, by omega, by omega, by rw [← List.length_append, h4]; rfl⟩
  · simp only [go_sem, ↓reduceIte, reduceCtorEq, Nat.reduceAdd, Nat.reduceMul, Nat.reduceEqDiff, Nat.reduceSub, Nat.reduceLT, Nat.reduceLeDiff, Nat.reduceAnd, Nat.reduceShiftRight, Nat.reduceBEq, Nat.reduceBNe, Nat.reduceBneDiff, Nat.reduceBeqDiff, Int.reduceToNat, Int.reduceLE, Int.reduceLT, Int.reduceEq, h5]
    exact ⟨by omega, 5, by omega, by omega, by rw [← List.length_append, h5]; rfl⟩
  · simp only [go_sem, ↓reduceIte, reduceCtorEq, Nat.reduceAdd, Nat.reduceMul, Nat.reduceEqDiff, Nat.reduceSub, Nat.reduceLT, Nat.reduceLeDiff, Nat.reduceAnd, Nat.reduceShiftRight, Nat.reduceBEq, Nat.reduceBNe, Nat.reduceBneDiff, Nat.reduceBeqDiff, Int.reduceToNat, Int.reduceLE, Int.reduceLT, Int.reduceEq, h6]
    exact ⟨by omega, 6, by omega, by omega, by rw [← List.length_append, h6]; rfl⟩
  · have c1 : (((6 : Nat) : Int) < 6) = False := eq_false (by omega)
    simp only [go_sem, ↓reduceIte, reduceCtorEq, Nat.reduceAdd, Nat.reduceMul, Nat.reduceEqDiff, Nat.reduceSub, Nat.reduceLT, Nat.reduceLeDiff, Nat.reduceAnd, Nat.reduceShiftRight, Nat.reduceBEq, Nat.reduceBNe, Nat.reduceBneDiff, Nat.reduceBeqDiff, Int.reduceToNat, Int.reduceLE, Int.reduceLT, Int.reduceEq, c1, h7, e8]
    rw [u64_or1, cU64_dec]
    rfl
theorem ok_impl_SlotSum : MSum.ok Try.prog 34 := FM.f1_ok fun s _ => f_impl_SlotSum s

def okM (s : Slot) : Bool := decide (s.1 = sumM s) && decide (1 ≤ (s.2.1.toNat : Int)) && decide ((s.2.1.toNat : Int) ≤ 1000000000) && decide (1 ≤ (s.2.2.1.toNat : Int)) && decide ((s.2.2.1.toNat : Int) ≤ 256)
abbrev MSlotOk : FM := .f1 (CE.st cSlot) eBool.enc okM (fun _ => True)
attribute [go_sem] MSlotOk

def H_spec_SlotOk : Hint := { fs := [(31, MSum)], kp := [(0, [0]), (1, [1])], an := [(1, [0, 1, 0, 4, 15, 31, 63, 127, 255, 511, 1023, 2047, 4095, 8191, 16383, 32767, 65535, 131071, 262143, 524287, 1048575, 2097151, 4194303, 8388607, 16777215, 33554431])] }
attribute [go_sem] H_spec_SlotOk
theorem ok_H_spec_SlotOk : H_spec_SlotOk.ok Try.prog := AllOk.okR (.cons ok_spec_SlotSum .nil) .nil mix
theorem f_spec_SlotOk (s : Slot) : VFun Try.prog 48 [(CE.st cSlot).enc s] [] (eBool.enc (okM s)) [] := by
  obtain ⟨a, b, c, d, e, f, g⟩ := s
  refine VFun_pure (n := 28) (rs := [.tmp 2]) Try.func48 rfl rfl rfl rfl H_spec_SlotOk ok_H_spec_SlotOk _ _ (Nat.le_of_ble_eq_true rfl) (by kernel_rfl) ?_
  simp only [go_sem, ↓reduceIte, reduceCtorEq, Nat.reduceAdd, Nat.reduceMul, Nat.reduceEqDiff, Nat.reduceSub, Nat.reduceLT, Nat.reduceLeDiff, Nat.reduceAnd, Nat.reduceShiftRight, Nat.reduceBEq, Nat.reduceBNe, Nat.reduceBneDiff, Nat.reduceBeqDiff, Int.reduceToNat, Int.reduceLE, Int.reduceLT, Int.reduceEq]
  dsimp only [okM]
  refine ite_intro (fun h1 => ?_) fun h1 => by rw [decide_eq_false h1]; rfl
  refine ite_intro (fun h2 => ?_) fun h2 => by rw [decide_eq_false h2, Bool.and_false]; rfl
  refine ite_intro (fun h3 => ?_) fun h3 => by rw [decide_eq_false h3, Bool.and_false]; rfl
  refine ite_intro (fun h4 => ?_) fun h4 => by rw [decide_eq_false h4, Bool.and_false]; rfl
  rw [decide_eq_true h1, decide_eq_true h2, decide_eq_true h3, decide_eq_true h4]; rfl
theorem ok_spec_SlotOk : MSlotOk.ok Try.prog 48 := FM.f1_ok fun s _ => f_spec_SlotOk s

def H_impl_SlotOk : Hint := { fs := [(34, MSum)], kp := [(0, [0]), (1, [1])], an := [(1, [0, 1, 0, 4, 15, 31, 63, 127, 255, 511, 1023, 2047, 4095, 8191, 16383, 32767, 65535, 131071, 262143, 524287, 1048575, 2097151, 4194303, 8388607, 16777215, 33554431])] }
attribute [go_sem] H_impl_SlotOk
theorem ok_H_impl_SlotOk : H_impl_SlotOk.ok Try.prog := AllOk.okR (.cons ok_impl_SlotSum .nil) .nil mix
theorem f_impl_SlotOk (s : Slot) : VFun Try.prog 28 [(CE.st cSlot).enc s] [] (eBool.enc (okM s)) [] := by
  obtain ⟨a, b, c, d, e, f, g⟩ := s
  refine VFun_pure (n := 28) (rs := [.tmp 2]) Try.func28 rfl rfl rfl rfl H_impl_SlotOk ok_H_impl_SlotOk _ _ (Nat.le_of_ble_eq_true rfl) (by kernel_rfl) ?_
  simp only [go_sem, ↓reduceIte, reduceCtorEq, Nat.reduceAdd, Nat.reduceMul, Nat.reduceEqDiff, Nat.reduceSub, Nat.reduceLT, Nat.reduceLeDiff, Nat.reduceAnd, Nat.reduceShiftRight, Nat.reduceBEq, Nat.reduceBNe, Nat.reduceBneDiff, Nat.reduceBeqDiff, Int.reduceToNat, Int.reduceLE, Int.reduceLT, Int.reduceEq]
  dsimp only [okM]
  refine ite_intro (fun h1 => ?_) fun h1 => by rw [decide_eq_false h1]; rfl
  refine ite_intro (fun h2 => ?_) fun h2 => by rw [decide_eq_false h2, Bool.and_false]; rfl
  refine ite_intro (fun h3 => ?_) fun h3 => by rw [decide_eq_false h3, Bool.and_false]; rfl
  refine ite_intro (fun h4 => ?_) fun h4 => by rw [decide_eq_false h4, Bool.and_false]; rfl
  rw [decide_eq_true h1, decide_eq_true h2, decide_eq_true h3, decide_eq_true h4]; rfl
theorem ok_impl_SlotOk : MSlotOk.ok Try.prog 28 := FM.f1_ok fun s _ => f_impl_SlotOk s

/-- What a disk says. -/
def readM (d : Disk) : Record × Int :=
  if okM d.1 ∧ (okM d.2 → (d.2.2.1.toNat : Int) ≤ d.1.2.1.toNat) then ((d.1.2.1.toNat, d.1.2.2.1.toNat, d.1.2.2.2), 1)
  else if okM d.2 then ((d.2.2.1.toNat, d.2.2.2.1.toNat, d.2.2.2.2), 2)
  else ((0, 0, (0, 0, 0, 0)), 0)
theorem okM_seq {s : Slot} (h : okM s = true) : s.2.1.toNat ≤ 1000000000 ∧ 1 ≤ s.2.1.toNat ∧ 1 ≤ s.2.2.1.toNat ∧ s.2.2.1.toNat ≤ 256 := by
  simp only [okM, Bool.and_eq_true, decide_eq_true_eq] at h; omega
abbrev eRead := eT2 (CE.st cRecord) (eInt .i64) (fun _ => ⟨_, rfl⟩) (fun _ => ⟨_, rfl⟩)
attribute [go_sem] eRead
abbrev MRead : FM := .f1 (CE.st cDisk) eRead.enc readM (fun _ => True)
attribute [go_sem] MRead
theorem wrapR {n : Nat} (h : n ≤ 1000000000) : IntKind.i64.wrap (n : Int) = n := by rw [wrap64] <;> omega

def H_spec_RecordRead : Hint := { fs := [(48, MSlotOk)], kp := [(0, [0]), (1, [1, 2]), (2, [1, 2, 4]), (3, [1, 2, 4, 5]), (4, [1, 2]), (5, [1, 2, 5]), (6, [1, 2]), (7, [2])], an := [] }
attribute [go_sem] H_spec_RecordRead
theorem ok_H_spec_RecordRead : H_spec_RecordRead.ok Try.prog := AllOk.okR (.cons ok_spec_SlotOk .nil) .nil mix
theorem f_spec_RecordRead (d : Disk) : VFun Try.prog 21 [(CE.st cDisk).enc d] [] (eRead.enc (readM d)) [] := by
  obtain ⟨⟨a, b, c, d, e, f, g⟩, a', b', c', d', e', f', g'⟩ := d
  refine VFun_pure (n := 52) (rs := [.cell 2 56, .tmp 3]) Try.func21 rfl rfl rfl rfl H_spec_RecordRead ok_H_spec_RecordRead _ _ (Nat.le_of_ble_eq_true rfl) (by kernel_rfl) ?_
  simp only [go_sem, ↓reduceIte, reduceCtorEq, Nat.reduceAdd, Nat.reduceMul, Nat.reduceEqDiff, Nat.reduceSub, Nat.reduceLT, Nat.reduceLeDiff, Nat.reduceAnd, Nat.reduceShiftRight, Nat.reduceBEq, Nat.reduceBNe, Nat.reduceBneDiff, Nat.reduceBeqDiff, Int.reduceToNat, Int.reduceLE, Int.reduceLT, Int.reduceEq]
  by_cases h1 : okM (a, b, c, d, e, f, g) = true
  · have k1 := okM_seq h1
    dsimp only at k1
    by_cases h2 : okM (a', b', c', d', e', f', g') = true
    · have k2 := okM_seq h2
      dsimp only at k2
      by_cases h3 : (b'.toNat : Int) ≤ b.toNat
      · simp only [go_sem, ↓reduceIte, reduceCtorEq, Nat.reduceAdd, Nat.reduceMul, Nat.reduceEqDiff, Nat.reduceSub, Nat.reduceLT, Nat.reduceLeDiff, Nat.reduceAnd, Nat.reduceShiftRight, Nat.reduceBEq, Nat.reduceBNe, Nat.reduceBneDiff, Nat.reduceBeqDiff, Int.reduceToNat, Int.reduceLE, Int.reduceLT, Int.reduceEq, readM, h1, h2, h3, wrapR k1.1, wrapR (n := c.toNat) (by omega)]
      · simp only [go_sem, ↓reduceIte, reduceCtorEq, Nat.reduceAdd, Nat.reduceMul, Nat.reduceEqDiff, Nat.reduceSub, Nat.reduceLT, Nat.reduceLeDiff, Nat.reduceAnd, Nat.reduceShiftRight, Nat.reduceBEq, Nat.reduceBNe, Nat.reduceBneDiff, Nat.reduceBeqDiff, Int.reduceToNat, Int.reduceLE, Int.reduceLT, Int.reduceEq, readM, h1, h2, h3, wrapR k2.1, wrapR (n := c'.toNat) (by omega)]
    · simp only [go_sem, ↓reduceIte, reduceCtorEq, Nat.reduceAdd, Nat.reduceMul, Nat.reduceEqDiff, Nat.reduceSub, Nat.reduceLT, Nat.reduceLeDiff, Nat.reduceAnd, Nat.reduceShiftRight, Nat.reduceBEq, Nat.reduceBNe, Nat.reduceBneDiff, Nat.reduceBeqDiff, Int.reduceToNat, Int.reduceLE, Int.reduceLT, Int.reduceEq, readM, h1, h2, wrapR k1.1, wrapR (n := c.toNat) (by omega)]
  · by_cases h2 : okM (a', b', c', d', e', f', g') = true
    · have k2 := okM_seq h2
      dsimp only at k2
      simp only [go_sem, ↓reduceIte, reduceCtorEq, Nat.reduceAdd, Nat.reduceMul, Nat.reduceEqDiff, Nat.reduceSub, Nat.reduceLT, Nat.reduceLeDiff, Nat.reduceAnd, Nat.reduceShiftRight, Nat.reduceBEq, Nat.reduceBNe, Nat.reduceBneDiff, Nat.reduceBeqDiff, Int.reduceToNat, Int.reduceLE, Int.reduceLT, Int.reduceEq, readM, h1, h2, wrapR k2.1, wrapR (n := c'.toNat) (by omega)]
    · simp only [go_sem, ↓reduceIte, reduceCtorEq, Nat.reduceAdd, Nat.reduceMul, Nat.reduceEqDiff, Nat.reduceSub, Nat.reduceLT, Nat.reduceLeDiff, Nat.reduceAnd, Nat.reduceShiftRight, Nat.reduceBEq, Nat.reduceBNe, Nat.reduceBneDiff, Nat.reduceBeqDiff, Int.reduceToNat, Int.reduceLE, Int.reduceLT, Int.reduceEq, readM, h1, h2]
theorem ok_spec_RecordRead : MRead.ok Try.prog 21 := FM.f1_ok fun d _ => f_spec_RecordRead d

def H_impl_RecordRead : Hint := { fs := [(28, MSlotOk)], kp := [(0, [0]), (1, [1, 2]), (2, [1, 2, 4, 5]), (3, [1, 2, 4]), (4, [1, 2, 4, 5]), (5, [1, 2, 4]), (6, [2, 4, 5])], an := [] }
attribute [go_sem] H_impl_RecordRead
theorem ok_H_impl_RecordRead : H_impl_RecordRead.ok Try.prog := AllOk.okR (.cons ok_impl_SlotOk .nil) .nil mix
theorem f_impl_RecordRead (d : Disk) : VFun Try.prog 22 [(CE.st cDisk).enc d] [] (eRead.enc (readM d)) [] := by
  obtain ⟨⟨a, b, c, d, e, f, g⟩, a', b', c', d', e', f', g'⟩ := d
  refine VFun_pure (n := 39) (rs := [.cell 2 56, .tmp 3]) Try.func22 rfl rfl rfl rfl H_impl_RecordRead ok_H_impl_RecordRead _ _ (Nat.le_of_ble_eq_true rfl) (by kernel_rfl) ?_
  simp only [go_sem, ↓reduceIte, reduceCtorEq, Nat.reduceAdd, Nat.reduceMul, Nat.reduceEqDiff, Nat.reduceSub, Nat.reduceLT, Nat.reduceLeDiff, Nat.reduceAnd, Nat.reduceShiftRight, Nat.reduceBEq, Nat.reduceBNe, Nat.reduceBneDiff, Nat.reduceBeqDiff, Int.reduceToNat, Int.reduceLE, Int.reduceLT, Int.reduceEq]
  by_cases h1 : okM (a, b, c, d, e, f, g) = true
  · have k1 := okM_seq h1
    dsimp only at k1
    by_cases h2 : okM (a', b', c', d', e', f', g') = true
    · have k2 := okM_seq h2
      dsimp only at k2
      by_cases h3 : (b'.toNat : Int) ≤ b.toNat
      · have h4 : ((b.toNat : Int) < b'.toNat) = False := eq_false (by omega)
        simp only [go_sem, ↓reduceIte, reduceCtorEq, Nat.reduceAdd, Nat.reduceMul, Nat.reduceEqDiff, Nat.reduceSub, Nat.reduceLT, Nat.reduceLeDiff, Nat.reduceAnd, Nat.reduceShiftRight, Nat.reduceBEq, Nat.reduceBNe, Nat.reduceBneDiff, Nat.reduceBeqDiff, Int.reduceToNat, Int.reduceLE, Int.reduceLT, Int.reduceEq, readM, h1, h2, h3, h4, wrapR k1.1, wrapR (n := c.toNat) (by omega)]
      · have h4 : ((b.toNat : Int) < b'.toNat) = True := eq_true (by omega)
        simp only [go_sem, ↓reduceIte, reduceCtorEq, Nat.reduceAdd, Nat.reduceMul, Nat.reduceEqDiff, Nat.reduceSub, Nat.reduceLT, Nat.reduceLeDiff, Nat.reduceAnd, Nat.reduceShiftRight, Nat.reduceBEq, Nat.reduceBNe, Nat.reduceBneDiff, Nat.reduceBeqDiff, Int.reduceToNat, Int.reduceLE, Int.reduceLT, Int.reduceEq, readM, h1, h2, h3, h4, wrapR k2.1, wrapR (n := c'.toNat) (by omega)]
    · simp only [go_sem, ↓reduceIte, reduceCtorEq, Nat.reduceAdd, Nat.reduceMul, Nat.reduceEqDiff, Nat.reduceSub, Nat.reduceLT, Nat.reduceLeDiff, Nat.reduceAnd, Nat.reduceShiftRight, Nat.reduceBEq, Nat.reduceBNe, Nat.reduceBneDiff, Nat.reduceBeqDiff, Int.reduceToNat, Int.reduceLE, Int.reduceLT, Int.reduceEq, readM, h1, h2, wrapR k1.1, wrapR (n := c.toNat) (by omega)]
  · by_cases h2 : okM (a', b', c', d', e', f', g') = true
    · have k2 := okM_seq h2
      dsimp only at k2
      simp only [go_sem, ↓reduceIte, reduceCtorEq, Nat.reduceAdd, Nat.reduceMul, Nat.reduceEqDiff, Nat.reduceSub, Nat.reduceLT, Nat.reduceLeDiff, Nat.reduceAnd, Nat.reduceShiftRight, Nat.reduceBEq, Nat.reduceBNe, Nat.reduceBneDiff, Nat.reduceBeqDiff, Int.reduceToNat, Int.reduceLE, Int.reduceLT, Int.reduceEq, readM, h1, h2, wrapR k2.1, wrapR (n := c'.toNat) (by omega), wrapR (n := 0) (by omega)]
    · simp only [go_sem, ↓reduceIte, reduceCtorEq, Nat.reduceAdd, Nat.reduceMul, Nat.reduceEqDiff, Nat.reduceSub, Nat.reduceLT, Nat.reduceLeDiff, Nat.reduceAnd, Nat.reduceShiftRight, Nat.reduceBEq, Nat.reduceBNe, Nat.reduceBneDiff, Nat.reduceBeqDiff, Int.reduceToNat, Int.reduceLE, Int.reduceLT, Int.reduceEq, readM, h1, h2, show IntKind.i64.wrap 0 = 0 from rfl]
theorem ok_impl_RecordRead : MRead.ok Try.prog 22 := FM.f1_ok fun d _ => f_impl_RecordRead d

end Go.Proofs.YtgdbammhnjkbbaaW.V


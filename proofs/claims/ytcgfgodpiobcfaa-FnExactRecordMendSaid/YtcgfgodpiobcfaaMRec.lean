/- Whether a slot is right, what a disk's record is, and what a witness holds: what the program and the reference answer, as one plain function each. No condition beyond each theorem's own. -/
import Derived.Laws.BitsLemmas
import Derived.Test.YtcgfgodpiobcfaaMD
import Derived.Test.YtcgfgodpiobcfaaWKitA
namespace Go.Proofs.Ytcgfgodpiobcfaa.Hash
open Go.RowKit Go.Proofs.Ytcgfgodpiobcfaa.M Go.Proofs.YtcgfgodpiobcfaaW.PrintWords Go.Proofs.YtcgfgodpiobcfaaW.PrintLast Go.Proofs.YtcgfgodpiobcfaaW.PrintMore
set_option linter.unusedSimpArgs false
set_option linter.unusedVariables false
theorem wrapsU (n : Int) (h0 : 0 ≤ n) (h1 : n < 18446744073709551616) : IntKind.u64.wrap n = n := by rw [IntKind.wrap_u64]; omega
theorem wrapsU' (n : Int) (h0 : 0 ≤ n) (h1 : n < 2 ^ 64) : IntKind.u64.wrap n = n := wrapsU n h0 (by simpa using h1)
theorem or_comm (x y : Int) : bits .or .u64 x y = bits .or .u64 y x := by unfold bits; simp only [BitVec.or_comm]
/-- eight bytes, the higher first -/
def horner (b : Nat → Int) : Nat → Int
  | 0 => 0
  | n + 1 => horner b n * 256 + b n
def byte? (b : Int) : Prop := 0 ≤ b ∧ b < 256
theorem horner_range (b : Nat → Int) (hb : ∀ i, byte? (b i)) (n : Nat) : 0 ≤ horner b n ∧ horner b n < 256 ^ n := by
  induction n with
  | zero => simp [horner]
  | succ n ih =>
    have := hb n
    unfold byte? at this
    simp only [horner]
    rw [Int.pow_succ]
    omega
theorem or_step (x y : Int) (hx0 : 0 ≤ x) (hx1 : x < 72057594037927936) (hy : byte? y) : bits .or .u64 (IntKind.u64.wrap (x * 256)) (IntKind.u64.wrap y) = x * 256 + y := by
  unfold byte? at hy
  rw [wrapsU _ (by omega) (by omega), wrapsU _ (by omega) (by omega)]
  exact bits_join .u64 64 (by decide) wrapsU' 8 (x * 256) y (by omega) (by simp) (by omega) hy.1 (by omega) (by omega)
theorem or_high (i : Nat) (hi : i ≤ 56) (p : Int) (hp : p = 2 ^ i) (x y : Int) (hx0 : 0 ≤ x) (hx1 : x < p) (hy : byte? y) (hw : 256 * p ≤ 18446744073709551616) : bits .or .u64 x (IntKind.u64.wrap (IntKind.u64.wrap y * p)) = x + y * p := by
  unfold byte? at hy
  have hp0 : 0 < p := by omega
  have h1 : 0 ≤ y * p := Int.mul_nonneg hy.1 (by omega)
  have h2 : y * p ≤ 255 * p := Int.mul_le_mul_of_nonneg_right (by omega) (by omega)
  rw [wrapsU y (by omega) (by omega), wrapsU _ h1 (by omega), or_comm]
  rw [bits_join .u64 64 (by decide) wrapsU' i (y * p) x h1 (by rw [hp]; simp) (by omega) hx0 (by rw [← hp]; exact hx1) (by omega)]
  omega
/-! the word of eight bytes -/
theorem uint64_of (l : List Int) (h : 8 ≤ l.length) (hb : ∀ i : Nat, byte? (rd l i)) : binary_bigEndian_Uint64.f l = some (horner (fun j => rd l (j : Nat)) 8) := by
  have b0 := hb 0; have b1 := hb 1; have b2 := hb 2; have b3 := hb 3; have b4 := hb 4; have b5 := hb 5; have b6 := hb 6; have b7 := hb 7
  unfold binary_bigEndian_Uint64.f
  rw [if_pos (by omega), if_pos (by omega), if_pos (by omega), if_pos (by omega), if_pos (by omega), if_pos (by omega), if_pos (by omega), if_pos (by omega)]
  have e0 : rd l ((0 : Nat) : Int) = rd l 0 := rfl
  have e1 : rd l ((1 : Nat) : Int) = rd l 1 := rfl
  have e2 : rd l ((2 : Nat) : Int) = rd l 2 := rfl
  have e3 : rd l ((3 : Nat) : Int) = rd l 3 := rfl
  have e4 : rd l ((4 : Nat) : Int) = rd l 4 := rfl
  have e5 : rd l ((5 : Nat) : Int) = rd l 5 := rfl
  have e6 : rd l ((6 : Nat) : Int) = rd l 6 := rfl
  have e7 : rd l ((7 : Nat) : Int) = rd l 7 := rfl
  simp only [horner]
  rw [e0] at b0; rw [e1] at b1; rw [e2] at b2; rw [e3] at b3; rw [e4] at b4; rw [e5] at b5; rw [e6] at b6; rw [e7] at b7
  rw [e0, e1, e2, e3, e4, e5, e6, e7]
  generalize rd l 0 = c0 at *; generalize rd l 1 = c1 at *; generalize rd l 2 = c2 at *; generalize rd l 3 = c3 at *
  generalize rd l 4 = c4 at *; generalize rd l 5 = c5 at *; generalize rd l 6 = c6 at *; generalize rd l 7 = c7 at *
  have q0 := b0; have q1 := b1; have q2 := b2; have q3 := b3; have q4 := b4; have q5 := b5; have q6 := b6; have q7 := b7
  unfold byte? at q0 q1 q2 q3 q4 q5 q6 q7
  rw [wrapsU c7 (by omega) (by omega)]
  rw [or_high 8 (by decide) 256 (by decide) c7 c6 (by omega) (by omega) b6 (by omega)]
  rw [or_high 16 (by decide) 65536 (by decide) _ c5 (by omega) (by omega) b5 (by omega)]
  rw [or_high 24 (by decide) 16777216 (by decide) _ c4 (by omega) (by omega) b4 (by omega)]
  rw [or_high 32 (by decide) 4294967296 (by decide) _ c3 (by omega) (by omega) b3 (by omega)]
  rw [or_high 40 (by decide) 1099511627776 (by decide) _ c2 (by omega) (by omega) b2 (by omega)]
  rw [or_high 48 (by decide) 281474976710656 (by decide) _ c1 (by omega) (by omega) b1 (by omega)]
  rw [or_high 56 (by decide) 72057594037927936 (by decide) _ c0 (by omega) (by omega) b0 (by omega)]
  congr 1
  omega
theorem l1Word_of (s : ByteArray) (i : Nat) (h : i + 8 ≤ s.size) (hs : s.size ≤ 1048576) : Ev (fun k => spec_l1Word.f k s (i : Int)) (horner (fun j => bt s ((i + j : Nat) : Int)) 8) := by
  have hb : ∀ j : Nat, byte? (bt s ((i + j : Nat) : Int)) := fun j => by have := bt_range s ((i + j : Nat) : Int); unfold byte?; omega
  have hd := down (n := 8) (P := fun j => Ev (fun k => spec_l1Word.l0 k s (i : Int) (horner (fun j => bt s ((i + j : Nat) : Int)) j) ((i + j : Nat) : Int)) (horner (fun j => bt s ((i + j : Nat) : Int)) 8)) ?_ ?_
  · exact hd
  · refine Ev.mk' 1 fun k hk => ?_
    obtain ⟨m, rfl⟩ : ∃ m, k = m + 1 := ⟨k - 1, by omega⟩
    simp only [spec_l1Word.l0]
    rw [if_neg (by rw [wrap_of (by omega) (by omega)]; omega)]
  · rintro j hj hev
    obtain ⟨K, hK⟩ := Ev.get hev
    refine Ev.mk' (K + 1) fun k hk => ?_
    obtain ⟨m, rfl⟩ : ∃ m, k = m + 1 := ⟨k - 1, by omega⟩
    have hr := horner_range (fun j => bt s ((i + j : Nat) : Int)) hb j
    have hp : (256 : Int) ^ j ≤ 72057594037927936 := by
      have : (256 : Nat) ^ j ≤ 256 ^ 7 := Nat.pow_le_pow_right (by decide) (by omega)
      have h2 : ((256 ^ j : Nat) : Int) ≤ ((256 ^ 7 : Nat) : Int) := by exact_mod_cast this
      simpa using h2
    simp only [spec_l1Word.l0]
    rw [if_pos (by rw [wrap_of (by omega) (by omega)]; omega), if_pos (by omega), if_pos (by omega), or_step _ _ hr.1 (by omega) (hb j), wrap_succ (i + j) (by omega)]
    exact hK m (by omega)
/-! the rounds -/
def turn (x : Int) (n : Nat) : Int := bits .or .u64 (shl .u64 x n) (shr .u64 x ((64 - n : Nat) : Int))
theorem turn_spec39 (x : Int) : spec_l1Turn.f x 39 = some (turn x 39) := by
  have a1 : IntKind.u64.wrap 39 = 39 := by rw [IntKind.wrap_u64]; rfl
  have a2 : wrap64 (64 - 39) = 25 := by unfold wrap64; rfl
  have a3 : IntKind.u64.wrap 25 = 25 := by rw [IntKind.wrap_u64]; rfl
  unfold spec_l1Turn.f
  rw [a2, a1, a3, if_pos (by decide), if_pos (by decide)]
  rfl
theorem turn_spec21 (x : Int) : spec_l1Turn.f x 21 = some (turn x 21) := by
  have a1 : IntKind.u64.wrap 21 = 21 := by rw [IntKind.wrap_u64]; rfl
  have a2 : wrap64 (64 - 21) = 43 := by unfold wrap64; rfl
  have a3 : IntKind.u64.wrap 43 = 43 := by rw [IntKind.wrap_u64]; rfl
  unfold spec_l1Turn.f
  rw [a2, a1, a3, if_pos (by decide), if_pos (by decide)]
  rfl
theorem turn_impl39 (x : Int) : bits_RotateLeft64.f x 39 = some (turn x 39) := rfl
theorem turn_impl21 (x : Int) : bits_RotateLeft64.f x 21 = some (turn x 21) := rfl
def hrounds : Nat → Int → Int → Int → Int → Int → Int × Int × Int × Int
  | 0, a, b, c, d, _ => (a, b, c, d)
  | n + 1, x5, x6, x7, x8, x9 =>
    hrounds n (turn (Go.bits .xor .u64 x6 (IntKind.u64.wrap (x7 + turn (Go.bits .xor .u64 x8 (IntKind.u64.wrap ((IntKind.u64.wrap (x5 + x6)) + (IntKind.u64.wrap (x9 + 12620524952350641003))))) 39))) 21)
      (IntKind.u64.wrap (x7 + turn (Go.bits .xor .u64 x8 (IntKind.u64.wrap ((IntKind.u64.wrap (x5 + x6)) + (IntKind.u64.wrap (x9 + 12620524952350641003))))) 39))
      (turn (Go.bits .xor .u64 x8 (IntKind.u64.wrap ((IntKind.u64.wrap (x5 + x6)) + (IntKind.u64.wrap (x9 + 12620524952350641003))))) 39)
      (IntKind.u64.wrap ((IntKind.u64.wrap (x5 + x6)) + (IntKind.u64.wrap (x9 + 12620524952350641003)))) (IntKind.u64.wrap (x9 + 12620524952350641003))
def hfin (s : Int × Int × Int × Int) (r : Int × Int × Int × Int) : Int × Int × Int × Int := (Go.bits .xor .u64 r.1 s.1, Go.bits .xor .u64 r.2.1 s.2.1, Go.bits .xor .u64 r.2.2.1 s.2.2.1, Go.bits .xor .u64 r.2.2.2 s.2.2.2)
def hblk (s b : Int × Int × Int × Int) : Int × Int × Int × Int := hfin s (hrounds 10 (Go.bits .xor .u64 s.1 b.1) (Go.bits .xor .u64 s.2.1 b.2.1) (Go.bits .xor .u64 s.2.2.1 b.2.2.1) (Go.bits .xor .u64 s.2.2.2 b.2.2.2) 0)
theorem spec_rounds (s0 s1 s2 s3 : Int) (n : Nat) : ∀ (a b c d x : Int), n ≤ 10 → Ev (fun k => spec_HashBlock.l0 k a b c d x ((10 - n : Nat) : Int) s0 s1 s2 s3) (hfin (s0, s1, s2, s3) (hrounds n a b c d x)) := by
  induction n with
  | zero =>
    intro a b c d x _
    refine Ev.mk' 1 fun k hk => ?_
    obtain ⟨m, rfl⟩ : ∃ m, k = m + 1 := ⟨k - 1, by omega⟩
    simp only [spec_HashBlock.l0]
    rw [if_neg (by omega)]; rfl
  | succ n ih =>
    intro a b c d x hn
    obtain ⟨K, hK⟩ := Ev.get (ih _ _ _ _ _ (by omega) : Ev (fun k => spec_HashBlock.l0 k (turn (Go.bits .xor .u64 b (IntKind.u64.wrap (c + turn (Go.bits .xor .u64 d (IntKind.u64.wrap ((IntKind.u64.wrap (a + b)) + (IntKind.u64.wrap (x + 12620524952350641003))))) 39))) 21) _ _ _ _ _ _ _ _ _) _)
    refine Ev.mk' (K + 1) fun k hk => ?_
    obtain ⟨m, rfl⟩ : ∃ m, k = m + 1 := ⟨k - 1, by omega⟩
    simp only [spec_HashBlock.l0]
    rw [if_pos (by omega), turn_spec39, Option.bind_some, turn_spec21, Option.bind_some, wrap_succ (10 - (n + 1)) (by omega), show 10 - (n + 1) + 1 = 10 - n by omega]
    exact hK m (by omega)
theorem three (a b x : Int) : IntKind.u64.wrap (a + (IntKind.u64.wrap (b + (IntKind.u64.wrap (x + 12620524952350641003))))) = IntKind.u64.wrap ((IntKind.u64.wrap (a + b)) + (IntKind.u64.wrap (x + 12620524952350641003))) := by
  simp only [IntKind.wrap_u64]; omega
theorem rounds_same (s0 s1 s2 s3 : Int) (k : Nat) : ∀ (a b c d x i : Int), impl_HashBlock.l0 k a b c d x i s0 s1 s2 s3 = spec_HashBlock.l0 k a b c d x i s0 s1 s2 s3 := by
  induction k with
  | zero => intros; rfl
  | succ k ih =>
    intro a b c d x i
    simp only [impl_HashBlock.l0, spec_HashBlock.l0]
    by_cases h : i < 10
    · rw [if_pos h, if_pos h, three, turn_impl39, turn_spec39, Option.bind_some, Option.bind_some, turn_impl21, turn_spec21, Option.bind_some, Option.bind_some]
      exact ih _ _ _ _ _ _
    · rw [if_neg h, if_neg h]
theorem spec_block (s0 s1 s2 s3 b0 b1 b2 b3 : Int) : Ev (fun k => spec_HashBlock.f k s0 s1 s2 s3 b0 b1 b2 b3) (hblk (s0, s1, s2, s3) (b0, b1, b2, b3)) := spec_rounds s0 s1 s2 s3 10 _ _ _ _ _ (by omega)
theorem impl_block (s0 s1 s2 s3 b0 b1 b2 b3 : Int) : Ev (fun k => impl_HashBlock.f k s0 s1 s2 s3 b0 b1 b2 b3) (hblk (s0, s1, s2, s3) (b0, b1, b2, b3)) := by
  obtain ⟨K, hK⟩ := Ev.get (spec_block s0 s1 s2 s3 b0 b1 b2 b3)
  refine Ev.mk' K fun k hk => ?_
  have := hK k hk
  unfold impl_HashBlock.f
  rw [rounds_same]
  exact this
/-! the whole -/
def wordAt (l : List Int) (i : Nat) : Int := horner (fun j => rd l ((i + j : Nat) : Int)) 8
def hgo (l : List Int) : Nat → Nat → Int × Int × Int × Int → Int × Int × Int × Int
  | 0, _, st => st
  | n + 1, i, st => hgo l n (i + 32) (hblk st (wordAt l i, wordAt l (i + 8), wordAt l (i + 16), wordAt l (i + 24)))
def Bytes (l : List Int) : Prop := ∀ x ∈ l, byte? x
theorem Bytes.at {l : List Int} (h : Bytes l) (i : Nat) : byte? (rd l (i : Int)) := by
  unfold rd
  rw [Int.toNat_natCast, List.getD_eq_getElem?_getD]
  cases hx : l[i]? with
  | none => simp [byte?]
  | some x => exact h x (List.mem_of_getElem? hx)
theorem Bytes.append {a b : List Int} (ha : Bytes a) (hb : Bytes b) : Bytes (a ++ b) := fun x hx => (List.mem_append.1 hx).elim (ha x) (hb x)
theorem bt_str {l : List Int} (h : Bytes l) (i : Nat) (hi : i < l.length) : bt (strOfNums l) (i : Int) = rd l (i : Int) := by
  have hx : byte? l[i] := h _ (List.getElem_mem hi)
  unfold byte? at hx
  have hs : i < (strOfNums l).size := by rw [strOfNums_size]; exact hi
  unfold bt rd
  rw [dif_pos (by rw [Int.toNat_natCast]; exact hs), getD_lt l _ 0 (by rw [Int.toNat_natCast]; exact hi)]
  simp only [Int.toNat_natCast]
  have : (strOfNums l)[i] = UInt8.ofNat l[i].toNat := by
    show (strOfNums l).data[i] = _
    simp [strOfNums]
  rw [this]
  simp
  omega
theorem horner_congr (b c : Nat → Int) (n : Nat) (h : ∀ i, i < n → b i = c i) : horner b n = horner c n := by
  induction n with
  | zero => rfl
  | succ n ih => simp only [horner]; rw [ih (fun i hi => h i (by omega)), h n (by omega)]
theorem add8 (i : Nat) (h : i ≤ 1048576) : wrap64 ((i : Int) + 8) = ((i + 8 : Nat) : Int) := by rw [wrap_of (by omega) (by omega)]; omega
theorem add16 (i : Nat) (h : i ≤ 1048576) : wrap64 ((i : Int) + 16) = ((i + 16 : Nat) : Int) := by rw [wrap_of (by omega) (by omega)]; omega
theorem add24 (i : Nat) (h : i ≤ 1048576) : wrap64 ((i : Int) + 24) = ((i + 24 : Nat) : Int) := by rw [wrap_of (by omega) (by omega)]; omega
theorem add32 (i : Nat) (h : i ≤ 1048576) : wrap64 ((i : Int) + 32) = ((i + 32 : Nat) : Int) := by rw [wrap_of (by omega) (by omega)]; omega
theorem specL (l : List Int) (hb : Bytes l) (hs : l.length ≤ 1048576) (n : Nat) : ∀ (i : Nat) (a b c d : Int), l.length = i + 32 * n → Ev (fun k => spec_HashOf.l0 k (strOfNums l) (i : Int) a b c d) (hgo l n i (a, b, c, d)) := by
  induction n with
  | zero =>
    intro i a b c d hl
    refine Ev.mk' 1 fun k hk => ?_
    obtain ⟨m, rfl⟩ : ∃ m, k = m + 1 := ⟨k - 1, by omega⟩
    simp only [spec_HashOf.l0]
    rw [strOfNums_size, if_neg (by omega)]; rfl
  | succ n ih =>
    intro i a b c d hl
    have hi0 : i ≤ 1048576 := by omega
    have hz : (strOfNums l).size = l.length := strOfNums_size l
    have hw : ∀ j, j + 8 ≤ l.length → horner (fun t => bt (strOfNums l) ((j + t : Nat) : Int)) 8 = wordAt l j := fun j hj => horner_congr _ _ 8 (fun t ht => bt_str hb (j + t) (by omega))
    obtain ⟨K0, h0⟩ := Ev.get (l1Word_of (strOfNums l) i (by omega) (by omega))
    obtain ⟨K1, h1⟩ := Ev.get (l1Word_of (strOfNums l) (i + 8) (by omega) (by omega))
    obtain ⟨K2, h2⟩ := Ev.get (l1Word_of (strOfNums l) (i + 16) (by omega) (by omega))
    obtain ⟨K3, h3⟩ := Ev.get (l1Word_of (strOfNums l) (i + 24) (by omega) (by omega))
    rw [hw _ (by omega)] at h0 h1 h2 h3
    obtain ⟨K4, h4⟩ := Ev.get (spec_block a b c d (wordAt l i) (wordAt l (i + 8)) (wordAt l (i + 16)) (wordAt l (i + 24)))
    obtain ⟨q, hq⟩ : ∃ q, q = hblk (a, b, c, d) (wordAt l i, wordAt l (i + 8), wordAt l (i + 16), wordAt l (i + 24)) := ⟨_, rfl⟩
    obtain ⟨K5, h5⟩ := Ev.get (ih (i + 32) q.1 q.2.1 q.2.2.1 q.2.2.2 (by omega))
    refine Ev.mk' (K0 + K1 + K2 + K3 + K4 + K5 + 1) fun k hk => ?_
    obtain ⟨m, rfl⟩ : ∃ m, k = m + 1 := ⟨k - 1, by omega⟩
    simp only [spec_HashOf.l0]
    have e8 := add8 i hi0
    have e16 := add16 i hi0
    have e24 := add24 i hi0
    have e32 := add32 i hi0
    rw [if_pos (by omega), h0 m (by omega), Option.bind_some, e8, h1 m (by omega), Option.bind_some, e16, h2 m (by omega), Option.bind_some, e24, h3 m (by omega), Option.bind_some, h4 m (by omega), Option.bind_some, e32, ← hq, h5 m (by omega)]
    rw [hq]; rfl
theorem digest_of (l : List Int) (hb : Bytes l) (i : Nat) (h : i + 32 ≤ l.length) : impl_digestOf.f ((l.take (i + 32)).drop i) = some (wordAt l i, wordAt l (i + 8), wordAt l (i + 16), wordAt l (i + 24)) := by
  have hlen : ((l.take (i + 32)).drop i).length = 32 := by rw [List.length_drop, List.length_take]; omega
  have hrd : ∀ (j : Nat) (t : Nat), j + t < 32 → rd (((l.take (i + 32)).drop i).drop j) (t : Int) = rd l ((i + j + t : Nat) : Int) := by
    intro j t hjt
    unfold rd
    rw [Int.toNat_natCast, Int.toNat_natCast, List.drop_drop, List.getD_eq_getElem?_getD, List.getD_eq_getElem?_getD, List.getElem?_drop, List.getElem?_take, if_pos (by omega)]
  have hB : ∀ j, Bytes (((l.take (i + 32)).drop i).drop j) := fun j x hx => hb x (List.mem_of_mem_take (List.mem_of_mem_drop (List.mem_of_mem_drop hx)))
  have hw : ∀ j, j + 8 ≤ 32 → binary_bigEndian_Uint64.f (((l.take (i + 32)).drop i).drop j) = some (wordAt l (i + j)) := by
    intro j hj
    rw [uint64_of _ (by rw [List.length_drop, hlen]; omega) (fun t => (hB j).at t)]
    congr 1
    exact horner_congr _ _ 8 (fun t ht => hrd j t (by omega))
  have h0 := hw 0 (by omega)
  rw [List.drop_zero] at h0
  unfold impl_digestOf.f
  rw [h0, Option.bind_some, hlen, if_pos (by omega), hw 8 (by omega), Option.bind_some, if_pos (by omega), hw 16 (by omega), Option.bind_some, if_pos (by omega), hw 24 (by omega), Option.bind_some]
  rfl
theorem implL (l : List Int) (hb : Bytes l) (hs : l.length ≤ 1048576) (n : Nat) : ∀ (i : Nat) (a b c d : Int), l.length = i + 32 * n → Ev (fun k => impl_HashOf.l2 k l (i : Int) a b c d) (hgo l n i (a, b, c, d)) := by
  induction n with
  | zero =>
    intro i a b c d hl
    refine Ev.mk' 1 fun k hk => ?_
    obtain ⟨m, rfl⟩ : ∃ m, k = m + 1 := ⟨k - 1, by omega⟩
    simp only [impl_HashOf.l2]
    rw [if_neg (by omega)]; rfl
  | succ n ih =>
    intro i a b c d hl
    have hi0 : i ≤ 1048576 := by omega
    obtain ⟨K4, h4⟩ := Ev.get (impl_block a b c d (wordAt l i) (wordAt l (i + 8)) (wordAt l (i + 16)) (wordAt l (i + 24)))
    obtain ⟨q, hq⟩ : ∃ q, q = hblk (a, b, c, d) (wordAt l i, wordAt l (i + 8), wordAt l (i + 16), wordAt l (i + 24)) := ⟨_, rfl⟩
    obtain ⟨K5, h5⟩ := Ev.get (ih (i + 32) q.1 q.2.1 q.2.2.1 q.2.2.2 (by omega))
    refine Ev.mk' (K4 + K5 + 1) fun k hk => ?_
    obtain ⟨m, rfl⟩ : ∃ m, k = m + 1 := ⟨k - 1, by omega⟩
    simp only [impl_HashOf.l2]
    have e32 := add32 i hi0
    rw [e32, if_pos (by omega), if_pos (by omega), if_pos (by omega), if_pos (by omega), Int.toNat_natCast, Int.toNat_natCast, digest_of l hb i (by omega), Option.bind_some, h4 m (by omega), Option.bind_some, ← hq, h5 m (by omega)]
    rw [hq]; rfl
/-- the bytes that count -/
def bareFrom (s : ByteArray) (i : Nat) : List Int := ((List.range' i (s.size - i)).map fun (j : Nat) => bt s (j : Int)).filter fun x => decide (¬ x = 255)
def bare (s : ByteArray) : List Int := bareFrom s 0
theorem bare_end (s : ByteArray) : bareFrom s s.size = [] := by simp [bareFrom]
theorem bare_step (s : ByteArray) (i : Nat) (h : i < s.size) : bareFrom s i = if bt s (i : Int) = 255 then bareFrom s (i + 1) else bt s (i : Int) :: bareFrom s (i + 1) := by
  unfold bareFrom
  rw [show s.size - i = (s.size - (i + 1)) + 1 by omega, List.range'_succ, List.map_cons, List.filter_cons]
  by_cases h : bt s (i : Int) = 255 <;> simp [h]
theorem bare_len (s : ByteArray) (i : Nat) : (bareFrom s i).length ≤ s.size - i := by
  unfold bareFrom
  refine Nat.le_trans (List.length_filter_le _ _) ?_
  simp
theorem bare_bytes (s : ByteArray) : Bytes (bare s) := by
  intro x hx
  unfold bare bareFrom at hx
  rw [List.mem_filter, List.mem_map] at hx
  obtain ⟨⟨j, _, rfl⟩, _⟩ := hx
  have := bt_range s (j : Int)
  unfold byte?; omega
def be8 (x : Int) : List Int := [(x / 72057594037927936) % 256, (x / 281474976710656) % 256, (x / 1099511627776) % 256, (x / 4294967296) % 256, (x / 16777216) % 256, (x / 65536) % 256, (x / 256) % 256, x % 256]
theorem be8_bytes (x : Int) : Bytes (be8 x) := by
  intro y hy
  simp only [be8, List.mem_cons, List.not_mem_nil, or_false] at hy
  unfold byte?
  rcases hy with rfl | rfl | rfl | rfl | rfl | rfl | rfl | rfl <;> omega
theorem be8_len (x : Int) : (be8 x).length = 8 := rfl
def pad (l : List Int) : List Int := l ++ [128] ++ List.replicate ((55 - l.length % 32) % 32) 0 ++ be8 (l.length : Int)
theorem pad_bytes (l : List Int) (h : Bytes l) : Bytes (pad l) := by
  refine ((h.append ?_).append ?_).append (be8_bytes _)
  · intro x hx; rw [List.mem_singleton] at hx; subst hx; unfold byte?; omega
  · intro x hx; rw [List.mem_replicate] at hx; rw [hx.2]; unfold byte?; omega
theorem pad_len (l : List Int) : ∃ n, (pad l).length = 32 * n ∧ 32 * n ≤ l.length + 41 := by
  refine ⟨(l.length + 9 + (55 - l.length % 32) % 32) / 32, ?_, ?_⟩
  · unfold pad; simp only [List.length_append, List.length_replicate, be8_len, List.length_cons, List.length_nil]; omega
  · omega
def hash (s : ByteArray) : Int × Int × Int × Int := if s.size > 20000 then (0, 0, 0, 0) else hgo (pad (bare s)) ((pad (bare s)).length / 32) 0 (13971524466476933880, 3286059910148148165, 8210247237615983910, 11412903256176698835)
theorem bareL (s : ByteArray) (hs : s.size ≤ 20000) : ∀ d i acc, i ≤ s.size → s.size - i = d → acc.length ≤ i → Ev (fun k => spec_l1Bare.l0 k s acc (i : Int)) (strOfNums (acc ++ bareFrom s i)) := by
  intro d
  induction d with
  | zero =>
    intro i acc hi hd ha
    refine Ev.mk' 1 fun k hk => ?_
    obtain ⟨m, rfl⟩ : ∃ m, k = m + 1 := ⟨k - 1, by omega⟩
    obtain rfl : i = s.size := by omega
    simp only [spec_l1Bare.l0]
    rw [if_neg (by omega), bare_end, List.append_nil]
  | succ d ih =>
    intro i acc hi hd ha
    by_cases hy : bt s (i : Int) = 255
    · obtain ⟨K, hK⟩ := Ev.get (ih (i + 1) acc (by omega) (by omega) (by omega))
      refine Ev.mk' (K + 1) fun k hk => ?_
      obtain ⟨m, rfl⟩ : ∃ m, k = m + 1 := ⟨k - 1, by omega⟩
      simp only [spec_l1Bare.l0]
      rw [if_pos (by omega), if_pos (by omega), if_pos hy, wrap_succ i (by omega), hK m (by omega), bare_step s i (by omega), if_pos hy]
    · obtain ⟨K, hK⟩ := Ev.get (ih (i + 1) (acc ++ [bt s (i : Int)]) (by omega) (by omega) (by simp; omega))
      refine Ev.mk' (K + 1) fun k hk => ?_
      obtain ⟨m, rfl⟩ : ∃ m, k = m + 1 := ⟨k - 1, by omega⟩
      simp only [spec_l1Bare.l0]
      rw [if_pos (by omega), if_pos (by omega), if_neg hy, if_pos (by omega), wrap_succ i (by omega), hK m (by omega), bare_step s i (by omega), if_neg hy, List.append_assoc]
      rfl
theorem zerosL (n : Nat) (hn : n ≤ 1048576) : ∀ d i acc, i ≤ n → n - i = d → acc.length ≤ i → Ev (fun k => spec_l1Zeros.l0 k (n : Int) acc (i : Int)) (strOfNums (acc ++ List.replicate (n - i) 0)) := by
  intro d
  induction d with
  | zero =>
    intro i acc hi hd ha
    refine Ev.mk' 1 fun k hk => ?_
    obtain ⟨m, rfl⟩ : ∃ m, k = m + 1 := ⟨k - 1, by omega⟩
    obtain rfl : i = n := by omega
    simp only [spec_l1Zeros.l0]
    rw [if_neg (by omega)]; simp
  | succ d ih =>
    intro i acc hi hd ha
    obtain ⟨K, hK⟩ := Ev.get (ih (i + 1) (acc ++ [0]) (by omega) (by omega) (by simp; omega))
    refine Ev.mk' (K + 1) fun k hk => ?_
    obtain ⟨m, rfl⟩ : ∃ m, k = m + 1 := ⟨k - 1, by omega⟩
    simp only [spec_l1Zeros.l0]
    rw [if_pos (by omega), if_pos (by omega), wrap_succ i (by omega), hK m (by omega), List.append_assoc, show n - i = (n - (i + 1)) + 1 by omega, List.replicate_succ]
    rfl
theorem l1Bytes_step (k : Nat) (x : Int) (acc : List Int) (i : Nat) (hi : i ≤ 7) (ha : acc.length ≤ 7) : spec_l1Bytes.l0 (k + 1) x acc (i : Int) = spec_l1Bytes.l0 k x (acc ++ [(x / 2 ^ (8 * i)) % 256]) ((i : Int) - 1) := by
  have e : IntKind.u64.wrap (wrap64 (8 * (i : Int))) = ((8 * i : Nat) : Int) := by rw [wrap_of (by omega) (by omega), wrapsU _ (by omega) (by omega)]; omega
  have es : shr .u64 x ((8 * i : Nat) : Int) = x / 2 ^ (8 * i) := by
    unfold shr
    rw [Int.toNat_natCast, Nat.min_eq_left (by show 8 * i ≤ 64; omega)]
  rw [spec_l1Bytes.l0, if_pos (by omega), e, if_pos (by omega), if_pos (by omega), es, wrap_of (by omega) (by omega)]
theorem l1Bytes_of (x : Int) : Ev (fun k => spec_l1Bytes.f k x) (strOfNums (be8 x)) := by
  refine Ev.mk' 9 fun k hk => ?_
  obtain ⟨m, rfl⟩ : ∃ m, k = m + 9 := ⟨k - 9, by omega⟩
  unfold spec_l1Bytes.f
  rw [show (7 : Int) = ((7 : Nat) : Int) from rfl, l1Bytes_step _ x [] 7 (by omega) (by simp), show ((7 : Nat) : Int) - 1 = ((6 : Nat) : Int) from rfl, l1Bytes_step _ x _ 6 (by omega) (by simp), show ((6 : Nat) : Int) - 1 = ((5 : Nat) : Int) from rfl, l1Bytes_step _ x _ 5 (by omega) (by simp), show ((5 : Nat) : Int) - 1 = ((4 : Nat) : Int) from rfl, l1Bytes_step _ x _ 4 (by omega) (by simp), show ((4 : Nat) : Int) - 1 = ((3 : Nat) : Int) from rfl, l1Bytes_step _ x _ 3 (by omega) (by simp), show ((3 : Nat) : Int) - 1 = ((2 : Nat) : Int) from rfl, l1Bytes_step _ x _ 2 (by omega) (by simp), show ((2 : Nat) : Int) - 1 = ((1 : Nat) : Int) from rfl, l1Bytes_step _ x _ 1 (by omega) (by simp), show ((1 : Nat) : Int) - 1 = ((0 : Nat) : Int) from rfl, l1Bytes_step _ x _ 0 (by omega) (by simp)]
  rw [spec_l1Bytes.l0, if_neg (by omega)]
  simp [be8]
theorem str_append (a b : List Int) : strOfNums a ++ strOfNums b = strOfNums (a ++ b) := by
  unfold strOfNums
  rw [List.map_append]
  apply ByteArray.ext
  simp [ByteArray.data_append]
theorem padN (n : Nat) (h : n ≤ 20000) : Int.tmod (wrap64 (32 - (Int.tmod (wrap64 ((n : Int) + 9)) 32))) 32 = (((55 - n % 32) % 32 : Nat) : Int) := by
  rw [wrap_of (x := (n : Int) + 9) (by omega) (by omega)]
  have t1 : Int.tmod ((n : Int) + 9) 32 = ((n : Int) + 9) % 32 := Int.tmod_eq_emod_of_nonneg (by omega)
  rw [t1, wrap_of (by omega) (by omega), Int.tmod_eq_emod_of_nonneg (by omega)]
  omega
theorem spec_hash (s : ByteArray) : Ev (fun k => spec_HashOf.f k s) (hash s) := by
  by_cases hs : s.size ≤ 20000
  · have hL : (bare s).length ≤ s.size := by have := bare_len s 0; unfold bare; omega
    obtain ⟨L, hLe⟩ : ∃ L, L = bare s := ⟨_, rfl⟩
    have hB : Bytes L := by rw [hLe]; exact bare_bytes s
    rw [← hLe] at hL
    have hL2 : L.length ≤ 20000 := by omega
    obtain ⟨K0, h0⟩ := Ev.get (bareL s hs s.size 0 [] (by omega) (by omega) (by simp))
    rw [List.nil_append, show bareFrom s 0 = L from hLe.symm] at h0
    obtain ⟨K1, h1⟩ := Ev.get (zerosL ((55 - L.length % 32) % 32) (by omega) _ 0 [] (by omega) rfl (by simp))
    rw [List.nil_append] at h1
    obtain ⟨K2, h2⟩ := Ev.get (l1Bytes_of (L.length : Int))
    obtain ⟨n, hn, hn2⟩ := pad_len L
    obtain ⟨K3, h3⟩ := Ev.get (specL (pad L) (pad_bytes L hB) (by omega) n 0 13971524466476933880 3286059910148148165 8210247237615983910 11412903256176698835 (by omega))
    refine Ev.mk' (K0 + K1 + K2 + K3) fun k hk => ?_
    have g0 := h0 k (by omega)
    have hz : (strOfNums L).size = L.length := strOfNums_size L
    have hm : Int.tmod (wrap64 (32 - (Int.tmod (wrap64 (((strOfNums L).size : Int) + 9)) 32))) 32 = (((55 - L.length % 32) % 32 : Nat) : Int) := by
      exact hz ▸ padN L.length hL2
    unfold spec_HashOf.f hash
    rw [if_neg (by omega), if_neg (by omega)]
    have g0' : spec_l1Bare.f k s = some (strOfNums L) := g0
    rw [g0', Option.bind_some, Option.bind_some, hm]
    have g1 : spec_l1Zeros.f k (((55 - L.length % 32) % 32 : Nat) : Int) = some (strOfNums (List.replicate ((55 - L.length % 32) % 32 - 0) 0)) := h1 k (by omega)
    have hw : IntKind.u64.wrap (((strOfNums L).size : Int)) = (L.length : Int) := by rw [hz]; exact wrapsU _ (by omega) (by omega)
    rw [if_pos (by rw [hz, strOfNums_size]; simp; omega), g1, Option.bind_some, if_pos (by rw [ByteArray.size_append, hz, strOfNums_size, strOfNums_size]; simp; omega), hw, h2 k (by omega), Option.bind_some,
      if_pos (by rw [ByteArray.size_append, ByteArray.size_append, hz, strOfNums_size, strOfNums_size, strOfNums_size]; simp [be8_len]; omega), str_append, str_append, str_append, Nat.sub_zero]
    have g3 := h3 k (by omega)
    rw [← hLe, hn, Nat.mul_div_cancel_left n (by omega)]
    exact g3
  · refine Ev.mk' 0 fun k hk => ?_
    unfold spec_HashOf.f hash
    rw [if_pos (by omega), if_pos (by omega)]
theorem implPad (L : List Int) (hs : L.length ≤ 20000) (r : Int × Int × Int × Int) (he : Ev (fun k => impl_HashOf.l2 k (pad L) 0 13971524466476933880 3286059910148148165 8210247237615983910 11412903256176698835) r) :
    ∀ d j, j + d = (55 - L.length % 32) % 32 → Ev (fun k => impl_HashOf.l1 k (L ++ [128] ++ List.replicate j 0) (L.length : Int)) r := by
  intro d
  induction d with
  | zero =>
    intro j hj
    obtain ⟨K, hK⟩ := Ev.get he
    refine Ev.mk' (K + 1) fun k hk => ?_
    obtain ⟨m, rfl⟩ : ∃ m, k = m + 1 := ⟨k - 1, by omega⟩
    simp only [impl_HashOf.l1]
    have hl : (L ++ [128] ++ List.replicate j 0).length = L.length + 1 + j := by simp; omega
    rw [hl, if_pos (by omega)]
    unfold binary_bigEndian_AppendUint64.f
    rw [Option.bind_some, hl, if_pos (by simp; omega), Option.bind_some]
    have hp : L ++ [128] ++ List.replicate j 0 ++ be8 (L.length : Int) = pad L := by unfold pad; rw [← hj]; rfl
    have := hK m (by omega)
    rw [← hp] at this
    exact this
  | succ d ih =>
    intro j hj
    obtain ⟨K, hK⟩ := Ev.get (ih (j + 1) (by omega))
    refine Ev.mk' (K + 1) fun k hk => ?_
    obtain ⟨m, rfl⟩ : ∃ m, k = m + 1 := ⟨k - 1, by omega⟩
    simp only [impl_HashOf.l1]
    have hl : (L ++ [128] ++ List.replicate j 0).length = L.length + 1 + j := by simp; omega
    rw [hl, if_neg (by omega), if_pos (by omega)]
    have := hK m (by omega)
    rw [List.replicate_succ', ← List.append_assoc] at this
    exact this
theorem implBare (s : ByteArray) (hs : s.size ≤ 20000) (r : Int × Int × Int × Int) (he : Ev (fun k => impl_HashOf.l1 k (bare s ++ [128]) ((bare s).length : Int)) r) :
    ∀ d i acc, i ≤ s.size → s.size - i = d → acc.length ≤ i → acc ++ bareFrom s i = bare s → Ev (fun k => impl_HashOf.l0 k s acc (i : Int)) r := by
  intro d
  induction d with
  | zero =>
    intro i acc hi hd ha hacc
    obtain ⟨K, hK⟩ := Ev.get he
    refine Ev.mk' (K + 1) fun k hk => ?_
    obtain ⟨m, rfl⟩ : ∃ m, k = m + 1 := ⟨k - 1, by omega⟩
    obtain rfl : i = s.size := by omega
    rw [bare_end, List.append_nil] at hacc
    subst hacc
    simp only [impl_HashOf.l0]
    rw [if_neg (by omega), if_pos (by omega), wrapsU _ (by omega) (by omega)]
    exact hK m (by omega)
  | succ d ih =>
    intro i acc hi hd ha hacc
    have hb := bare_step s i (by omega)
    by_cases hy : bt s (i : Int) = 255
    · rw [if_pos hy] at hb
      obtain ⟨K, hK⟩ := Ev.get (ih (i + 1) acc (by omega) (by omega) (by omega) (by rw [← hb]; exact hacc))
      refine Ev.mk' (K + 1) fun k hk => ?_
      obtain ⟨m, rfl⟩ : ∃ m, k = m + 1 := ⟨k - 1, by omega⟩
      simp only [impl_HashOf.l0]
      rw [if_pos (by omega), if_pos (by omega), if_pos hy, wrap_succ i (by omega), hK m (by omega)]
    · rw [if_neg hy] at hb
      obtain ⟨K, hK⟩ := Ev.get (ih (i + 1) (acc ++ [bt s (i : Int)]) (by omega) (by omega) (by simp; omega) (by rw [List.append_assoc, ← hacc, hb]; rfl))
      refine Ev.mk' (K + 1) fun k hk => ?_
      obtain ⟨m, rfl⟩ : ∃ m, k = m + 1 := ⟨k - 1, by omega⟩
      simp only [impl_HashOf.l0]
      rw [if_pos (by omega), if_pos (by omega), if_neg hy, if_pos (by omega), wrap_succ i (by omega), hK m (by omega)]
theorem impl_hash (s : ByteArray) : Ev (fun k => impl_HashOf.f k s) (hash s) := by
  by_cases hs : s.size ≤ 20000
  · have hL : (bare s).length ≤ s.size := by have := bare_len s 0; unfold bare; omega
    obtain ⟨n, hn, hn2⟩ := pad_len (bare s)
    have h3 := implL (pad (bare s)) (pad_bytes _ (bare_bytes s)) (by omega) n 0 13971524466476933880 3286059910148148165 8210247237615983910 11412903256176698835 (by omega)
    have h2 := implPad (bare s) (by omega) _ h3 _ 0 (Nat.zero_add _)
    rw [List.replicate_zero, List.append_nil] at h2
    obtain ⟨K, hK⟩ := Ev.get (implBare s hs _ h2 s.size 0 [] (by omega) (by omega) (by simp) rfl)
    refine Ev.mk' K fun k hk => ?_
    unfold impl_HashOf.f hash
    rw [if_neg (by omega), if_neg (by omega), hn, Nat.mul_div_cancel_left n (by omega)]
    exact hK k hk
  · refine Ev.mk' 0 fun k hk => ?_
    unfold impl_HashOf.f hash
    rw [if_pos (by omega), if_pos (by omega)]
end Go.Proofs.Ytcgfgodpiobcfaa.Hash

namespace Go.Proofs.Ytcgfgodpiobcfaa.Hash
open Go.RowKit Go.Proofs.Ytcgfgodpiobcfaa.M Go.Proofs.YtcgfgodpiobcfaaW.PrintWords Go.Proofs.YtcgfgodpiobcfaaW.PrintLast Go.Proofs.YtcgfgodpiobcfaaW.PrintMore
set_option linter.unusedSimpArgs false
set_option linter.unusedVariables false
def slotBytes (a1 a2 a3 a4 a5 a6 : Int) : List Int := be8 a1 ++ be8 a2 ++ (be8 a3 ++ be8 a4 ++ be8 a5 ++ be8 a6)
theorem str_be8 (x : Int) : (strOfNums (be8 x)).size = 8 := by rw [strOfNums_size]; rfl
theorem hashBytes_of (a b c d : Int) : Ev (fun k => spec_HashBytes.f k a b c d) (strOfNums (be8 a ++ be8 b ++ be8 c ++ be8 d)) := by
  obtain ⟨K0, h0⟩ := Ev.get (l1Bytes_of a)
  obtain ⟨K1, h1⟩ := Ev.get (l1Bytes_of b)
  obtain ⟨K2, h2⟩ := Ev.get (l1Bytes_of c)
  obtain ⟨K3, h3⟩ := Ev.get (l1Bytes_of d)
  refine Ev.mk' (K0 + K1 + K2 + K3) fun k hk => ?_
  unfold spec_HashBytes.f
  rw [h0 k (by omega), Option.bind_some, h1 k (by omega), Option.bind_some, if_pos (by rw [str_be8, str_be8]; omega), h2 k (by omega), Option.bind_some, if_pos (by rw [ByteArray.size_append, str_be8, str_be8, str_be8]; omega), h3 k (by omega), Option.bind_some,
    if_pos (by rw [ByteArray.size_append, ByteArray.size_append, str_be8, str_be8, str_be8, str_be8]; omega), str_append, str_append, str_append]
def slotSum (a1 a2 a3 a4 a5 a6 : Int) : Int := Go.bits .or .u64 (hash (strOfNums (slotBytes a1 a2 a3 a4 a5 a6))).1 1
theorem spec_slotSum (a0 a1 a2 a3 a4 a5 a6 : Int) : Ev (fun k => spec_SlotSum.f k a0 a1 a2 a3 a4 a5 a6) (slotSum a1 a2 a3 a4 a5 a6) := by
  obtain ⟨K0, h0⟩ := Ev.get (l1Bytes_of a1)
  obtain ⟨K1, h1⟩ := Ev.get (l1Bytes_of a2)
  obtain ⟨K2, h2⟩ := Ev.get (hashBytes_of a3 a4 a5 a6)
  obtain ⟨K3, h3⟩ := Ev.get (spec_hash (strOfNums (slotBytes a1 a2 a3 a4 a5 a6)))
  refine Ev.mk' (K0 + K1 + K2 + K3) fun k hk => ?_
  unfold spec_SlotSum.f
  have e : strOfNums (be8 a1) ++ strOfNums (be8 a2) ++ strOfNums (be8 a3 ++ be8 a4 ++ be8 a5 ++ be8 a6) = strOfNums (slotBytes a1 a2 a3 a4 a5 a6) := by rw [str_append, str_append]; rfl
  rw [h0 k (by omega), Option.bind_some, h1 k (by omega), Option.bind_some, if_pos (by rw [str_be8, str_be8]; omega), h2 k (by omega), Option.bind_some, if_pos (by rw [ByteArray.size_append, str_be8, str_be8, strOfNums_size]; simp [be8_len]), e, h3 k (by omega), Option.bind_some]
  rfl
theorem impl_slotSum (a0 a1 a2 a3 a4 a5 a6 : Int) : Ev (fun k => impl_SlotSum.f k a0 a1 a2 a3 a4 a5 a6) (slotSum a1 a2 a3 a4 a5 a6) := by
  obtain ⟨K3, h3⟩ := Ev.get (impl_hash (strOfNums (slotBytes a1 a2 a3 a4 a5 a6)))
  refine Ev.mk' K3 fun k hk => ?_
  have e : slot_sum.f [a1, a2, a3, a4, a5, a6] 6 = slotBytes a1 a2 a3 a4 a5 a6 := by simp [slot_sum.f, slotBytes, slot_be8.f, be8]
  unfold impl_SlotSum.f
  rw [e, h3 k hk, Option.bind_some]
  rfl
end Go.Proofs.Ytcgfgodpiobcfaa.Hash

namespace Go.Proofs.Ytcgfgodpiobcfaa.Hash
open Go.RowKit Go.Proofs.Ytcgfgodpiobcfaa.M Go.Proofs.YtcgfgodpiobcfaaW.PrintWords Go.Proofs.YtcgfgodpiobcfaaW.PrintLast Go.Proofs.YtcgfgodpiobcfaaW.PrintMore
set_option linter.unusedSimpArgs false
set_option linter.unusedVariables false
def slotOk (a0 a1 a2 a3 a4 a5 a6 : Int) : Bool := decide (a0 = slotSum a1 a2 a3 a4 a5 a6 ∧ a1 ≥ 1 ∧ a1 ≤ 1000000000 ∧ a2 ≥ 1 ∧ a2 ≤ 256)
theorem ok_ite (a0 a1 a2 s : Int) : (if a0 = s then (if a1 ≥ 1 then (if a1 ≤ 1000000000 then (if a2 ≥ 1 then (some (decide (a2 ≤ 256))) else (some false)) else (some false)) else (some false)) else (some false)) = some (decide (a0 = s ∧ a1 ≥ 1 ∧ a1 ≤ 1000000000 ∧ a2 ≥ 1 ∧ a2 ≤ 256)) := by
  repeat' split
  all_goals simp [*]
theorem spec_slotOk (a0 a1 a2 a3 a4 a5 a6 : Int) : Ev (fun k => spec_SlotOk.f k a0 a1 a2 a3 a4 a5 a6) (slotOk a0 a1 a2 a3 a4 a5 a6) := by
  obtain ⟨K, h⟩ := Ev.get (spec_slotSum a0 a1 a2 a3 a4 a5 a6)
  refine Ev.mk' K fun k hk => ?_
  unfold spec_SlotOk.f
  rw [h k hk, Option.bind_some]
  exact ok_ite _ _ _ _
theorem impl_slotOk (a0 a1 a2 a3 a4 a5 a6 : Int) : Ev (fun k => impl_SlotOk.f k a0 a1 a2 a3 a4 a5 a6) (slotOk a0 a1 a2 a3 a4 a5 a6) := by
  obtain ⟨K, h⟩ := Ev.get (impl_slotSum a0 a1 a2 a3 a4 a5 a6)
  refine Ev.mk' K fun k hk => ?_
  unfold impl_SlotOk.f
  rw [h k hk, Option.bind_some]
  exact ok_ite _ _ _ _
end Go.Proofs.Ytcgfgodpiobcfaa.Hash

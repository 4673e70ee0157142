/- Words of 64 bits. No condition but each theorem's own. -/
import Derived.Test.YtcgkhljolflenaaGreatVOp
namespace Go.Proofs.YtcgkhljolflenaaGreatW.V
open Go

/-- Words. -/
def cU64 : Cd UInt64 where
  n := 1
  enc x := [.v (.int .u64 x.toNat)]
  dec cs := match cs with
    | [.v (.int .u64 n)] => if n = ((UInt64.ofNat n.toNat).toNat : Int) then some (UInt64.ofNat n.toNat) else none
    | _ => none
  len _ := rfl
  rt x := by simp
  ok cs x h := by
    split at h
    · split at h
      · rename_i n e
        cases h
        rw [← e]
        exact F2.leRefl _
      · cases h
    · cases h
@[go_sem] theorem cU64_n : cU64.n = 1 := rfl
@[go_sem] theorem cU64_enc (x : UInt64) : cU64.enc x = [.v (.int .u64 x.toNat)] := rfl
@[go_sem] theorem cU64_dec (x : UInt64) : cU64.dec [.v (.int .u64 (x.toNat : Int))] = some x := cU64.rt x
@[go_sem] theorem cU64_dec0 : cU64.dec [.v (.int .u64 0)] = some 0 := rfl
@[go_sem] theorem cU64_lit (n : Nat) (h : Nat.ble n 18446744073709551615 = true) : cU64.dec [.v (.int .u64 (OfNat.ofNat n : Int))] = some (OfNat.ofNat n) := by
  have h' := Nat.le_of_ble_eq_true h
  have e : ((OfNat.ofNat n : UInt64).toNat : Int) = OfNat.ofNat n := by
    show (((UInt64.ofNat n).toNat : Nat) : Int) = (n : Int)
    have := UInt64.toNat_ofNat' (n := n)
    omega
  rw [← e]; exact cU64.rt _
abbrev eU64 : CE UInt64 := CE.one cU64 cU64_n
attribute [go_sem] eU64

/-- Any number as a word. -/
def uOf (n : Int) : UInt64 := UInt64.ofNat (n % 18446744073709551616).toNat
theorem uOf_nat (n : Int) : ((uOf n).toNat : Int) = n % 18446744073709551616 := by
  unfold uOf
  have h0 : 0 ≤ n % 18446744073709551616 := Int.emod_nonneg _ (by decide)
  have h1 : n % 18446744073709551616 < 18446744073709551616 := Int.emod_lt_of_pos _ (by decide)
  simp; omega
theorem wrapU (n : Int) : IntKind.u64.wrap n = ((uOf n).toNat : Int) := by
  rw [uOf_nat]
  simp [IntKind.wrap, IntKind.bits, IntKind.signed]
theorem u64_lt (x : UInt64) : (x.toNat : Int) < 18446744073709551616 := by have := x.toNat_lt; omega
theorem u64_ext {x y : UInt64} (h : (x.toNat : Int) = y.toNat) : x = y := UInt64.toNat_inj.1 (by omega)
@[go_sem] theorem u64_inj (x y : UInt64) : ((x.toNat : Int) = (y.toNat : Int)) = (x = y) := propext ⟨u64_ext, fun h => by rw [h]⟩
@[go_sem] theorem u8_inj (x y : UInt8) : ((x.toNat : Int) = (y.toNat : Int)) = (x = y) := propext ⟨fun h => UInt8.toNat_inj.1 (by omega), fun h => by rw [h]⟩
@[go_sem] theorem u64_add (x y : UInt64) : IntKind.u64.wrap ((x.toNat : Int) + y.toNat) = ((x + y).toNat : Int) := by
  rw [wrapU, uOf_nat, UInt64.toNat_add]; omega
theorem ofBits (x : UInt64) : BitVec.ofInt 64 (x.toNat : Int) = x.toBitVec := by
  apply BitVec.eq_of_toNat_eq
  simp
theorem wrapNat (n : Nat) (h : n < 18446744073709551616) : IntKind.u64.wrap (n : Int) = (n : Int) := by
  rw [wrapU, uOf_nat]; omega
@[go_sem] theorem u64_xor (x y : UInt64) : xorI .u64 x.toNat y.toNat = ((x ^^^ y).toNat : Int) := by
  show IntKind.u64.wrap ((BitVec.ofInt 64 (x.toNat : Int) ^^^ BitVec.ofInt 64 (y.toNat : Int)).toNat : Nat) = _
  rw [ofBits, ofBits, wrapNat _ (BitVec.isLt _)]; rfl
@[go_sem] theorem u64_or (x y : UInt64) : orI .u64 x.toNat y.toNat = ((x ||| y).toNat : Int) := by
  show IntKind.u64.wrap ((BitVec.ofInt 64 (x.toNat : Int) ||| BitVec.ofInt 64 (y.toNat : Int)).toNat : Nat) = _
  rw [ofBits, ofBits, wrapNat _ (BitVec.isLt _)]; rfl
@[go_sem] theorem u64_shl (x : UInt64) (k : Nat) (hk : k < 64) : IntKind.u64.wrap ((x.toNat : Int) * 2 ^ min k 64) = ((x <<< UInt64.ofNat k).toNat : Int) := by
  rw [wrapU, uOf_nat, Nat.min_eq_left (by omega), UInt64.toNat_shiftLeft]
  have e : (UInt64.ofNat k).toNat % 64 = k := by simp; omega
  have e2 : (x.toNat : Int) * 2 ^ k = ((x.toNat * 2 ^ k : Nat) : Int) := by rw [Int.natCast_mul, Int.natCast_pow]; rfl
  rw [e, Nat.shiftLeft_eq, e2]
  generalize x.toNat * 2 ^ k = z
  omega
@[go_sem] theorem u64_shr (x : UInt64) (k : Nat) (hk : k < 64) : (x.toNat : Int).fdiv (2 ^ min k 64) = ((x >>> UInt64.ofNat k).toNat : Int) := by
  rw [Nat.min_eq_left (by omega), UInt64.toNat_shiftRight]
  have e : (UInt64.ofNat k).toNat % 64 = k := by simp; omega
  rw [e, Nat.shiftRight_eq_div_pow, Int.fdiv_eq_ediv_of_nonneg _ (by exact Int.le_of_lt (Int.pow_pos (by decide)))]
  simp
@[go_sem] theorem u64_u8 (x : UInt64) : IntKind.u8.wrap (x.toNat : Int) = (x.toUInt8.toNat : Int) := by
  simp [IntKind.wrap, IntKind.bits, IntKind.signed]
@[go_sem] theorem u8_u64 (y : UInt8) : IntKind.u64.wrap (y.toNat : Int) = (y.toUInt64.toNat : Int) := by
  rw [wrapU, uOf_nat]
  have := y.toNat_lt
  simp; omega
@[go_sem] theorem u64_self (x : UInt64) : IntKind.u64.wrap (x.toNat : Int) = (x.toNat : Int) := wrapNat _ x.toNat_lt
@[go_sem] theorem u8_self (y : UInt8) : IntKind.u8.wrap (y.toNat : Int) = (y.toNat : Int) := by
  have := y.toNat_lt
  simp [IntKind.wrap, IntKind.bits, IntKind.signed]; omega

theorem op_u64 {P : Program} {t : TypeId} (ht : P.underlying t = some (.int .u64)) : OpensC P t cU64 (fun _ => True) := by
  intro H enc w base spare held fuel cs x h
  obtain ⟨n, rfl, _, hw⟩ := DataW.trod_int ht h
  have hn : 0 ≤ n ∧ n < 18446744073709551616 := by
    simp [Lit.wf, IntKind.min, IntKind.max, IntKind.bits, IntKind.signed] at hw
    omega
  refine ⟨UInt64.ofNat n.toNat, ?_, trivial⟩
  have : ((UInt64.ofNat n.toNat).toNat : Int) = n := by simp; omega
  simp only [cU64_enc, this]
  exact .cons (.v _ rfl) .nil

end Go.Proofs.YtcgkhljolflenaaGreatW.V

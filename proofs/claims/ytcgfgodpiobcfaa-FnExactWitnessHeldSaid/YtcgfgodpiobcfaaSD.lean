/- What functions of the given program compute, as Lean functions over numbers and lists; written by a program of this session's. No condition. -/
import Derived.Test.YtcgfgodpiobcfaaProg
import Derived.Below
import Derived.Deep.Draws
import Derived.Deep.AppendLies
import Derived.Maps.AppendAt
import Derived.OwnWalk
import Derived.Laws.BytesArg
import Derived.Laws.MakeOwn
import Derived.Laws.OwnMore
import Derived.Deep.OwnRows
import Derived.Tactics
import Derived.Lib.ConvBytes
import Derived.Laws.Slices
import Derived.WalkKit
import Derived.KernelRfl
import Derived.RowKit3
import Derived.Deep.LoopGhost
import Derived.Deep.QuietTactic
import Derived.BigQuiet
import Derived.WideLaws
import Derived.Deep.DeepCutAuto
import Derived.Deep.CutBlock
import Derived.Deep.RegionHeld3
import Derived.Laws.Rows
import Derived.Lib.AppendStr
import Derived.ArgAppend
import Derived.Laws.IdiomCopy
import Derived.OrdersHeld
import Derived.Laws.BitsLemmas
import Derived.RowKit
import Derived.StillTailTactics
import Derived.Test.YtcgfgodpiobcfaaWWords
import Derived.Test.YtcgfgodpiobcfaaWLast
import Derived.Test.YtcgfgodpiobcfaaWTab
import Derived.Test.YtcgfgodpiobcfaaWFour
import Derived.Test.YtcgfgodpiobcfaaWQPut
import Derived.Test.YtcgfgodpiobcfaaWApart
import Derived.Test.YtcgfgodpiobcfaaWArr
import Derived.Test.YtcgfgodpiobcfaaWZeros
import Derived.Test.YtcgfgodpiobcfaaWFoot
import Derived.Test.YtcgfgodpiobcfaaWKept
import Derived.Test.YtcgfgodpiobcfaaWShare
import Derived.Test.YtcgfgodpiobcfaaWN
import Derived.Test.YtcgfgodpiobcfaaWFootNe
import Derived.Test.YtcgfgodpiobcfaaWAt
import Derived.Test.YtcgfgodpiobcfaaWEqStruct
import Derived.Test.YtcgfgodpiobcfaaWRepsOne
import Derived.Test.YtcgfgodpiobcfaaWInv
import Derived.Test.YtcgfgodpiobcfaaWInvWords
import Derived.Test.YtcgfgodpiobcfaaWGuard
import Derived.Test.YtcgfgodpiobcfaaWNEv
import Derived.Test.YtcgfgodpiobcfaaWMore
import Derived.Test.YtcgfgodpiobcfaaWCopy
namespace Go.Proofs.Ytcgfgodpiobcfaa.S
open Go.RowKit Go.Proofs.YtcgfgodpiobcfaaW.PrintWords Go.Proofs.YtcgfgodpiobcfaaW.PrintLast Go.Proofs.YtcgfgodpiobcfaaW.PrintMore
attribute [local go_sem] max2_int min2_int max_two min_two max_three min_three max_four min_four   -- for this text's walks alone
set_option linter.unusedVariables false
set_option linter.unusedSimpArgs false



def errW : Option Int → Value
  | none => .nilIface
  | some c => .iface 0 (.int .i64 c)
theorem errW_none : errW none = .nilIface := rfl
theorem errW_some (c : Int) : errW (some c) = .iface 0 (.int .i64 c) := rfl

theorem info5 : (Try.prog.info? 5).map (fun i => (i.zero, i.size, i.bytes)) = some (some (.int .u8 0), 1, 1) := by kernel_rfl
-- the values' own types


/-! ### binary_bigEndian_Uint64: function 86 -/
def binary_bigEndian_Uint64.f  (l1 : List Int) : Option (Int) := if 7 < (l1.length : Int) then (if 6 < (l1.length : Int) then (if 5 < (l1.length : Int) then (if 4 < (l1.length : Int) then (if 3 < (l1.length : Int) then (if 2 < (l1.length : Int) then (if 1 < (l1.length : Int) then (if 0 < (l1.length : Int) then (some (Go.bits .or .u64 (Go.bits .or .u64 (Go.bits .or .u64 (Go.bits .or .u64 (Go.bits .or .u64 (Go.bits .or .u64 (Go.bits .or .u64 (IntKind.u64.wrap (rd l1 7)) (IntKind.u64.wrap ((IntKind.u64.wrap (rd l1 6)) * 256))) (IntKind.u64.wrap ((IntKind.u64.wrap (rd l1 5)) * 65536))) (IntKind.u64.wrap ((IntKind.u64.wrap (rd l1 4)) * 16777216))) (IntKind.u64.wrap ((IntKind.u64.wrap (rd l1 3)) * 4294967296))) (IntKind.u64.wrap ((IntKind.u64.wrap (rd l1 2)) * 1099511627776))) (IntKind.u64.wrap ((IntKind.u64.wrap (rd l1 1)) * 281474976710656))) (IntKind.u64.wrap ((IntKind.u64.wrap (rd l1 0)) * 72057594037927936)))) else (none)) else (none)) else (none)) else (none)) else (none)) else (none)) else (none)) else (none)
/-! ### laws_toDigest: function 42 -/
def laws_toDigest.f (a0_0 : Int) (a0_1 : Int) (a0_2 : Int) (a0_3 : Int) : Option (Int × Int × Int × Int) := some (a0_0, a0_1, a0_2, a0_3)
/-! ### laws_toSlot: function 17 -/
def laws_toSlot.f (a0_0 : Int) (a0_1 : Int) (a0_2 : Int) (a0_3 : Int) (a0_4 : Int) (a0_5 : Int) (a0_6 : Int) : Option (Int × Int × Int × Int × Int × Int × Int) := (laws_toDigest.f a0_3 a0_4 a0_5 a0_6).bind fun bt117 => (some (a0_0, a0_1, a0_2, bt117.1, bt117.2.1, bt117.2.2.1, bt117.2.2.2))
/-! ### laws_toDisk: function 21 -/
def laws_toDisk.f (a0_0 : Int) (a0_1 : Int) (a0_2 : Int) (a0_3 : Int) (a0_4 : Int) (a0_5 : Int) (a0_6 : Int) (a0_7 : Int) (a0_8 : Int) (a0_9 : Int) (a0_10 : Int) (a0_11 : Int) (a0_12 : Int) (a0_13 : Int) : Option (Int × Int × Int × Int × Int × Int × Int × Int × Int × Int × Int × Int × Int × Int) := (laws_toSlot.f a0_0 a0_1 a0_2 a0_3 a0_4 a0_5 a0_6).bind fun bt124 => ((laws_toSlot.f a0_7 a0_8 a0_9 a0_10 a0_11 a0_12 a0_13).bind fun bt131 => (some (bt124.1, bt124.2.1, bt124.2.2.1, bt124.2.2.2.1, bt124.2.2.2.2.1, bt124.2.2.2.2.2.1, bt124.2.2.2.2.2.2, bt131.1, bt131.2.1, bt131.2.2.1, bt131.2.2.2.1, bt131.2.2.2.2.1, bt131.2.2.2.2.2.1, bt131.2.2.2.2.2.2)))
/-! ### spec_l1Bytes: function 53 -/
def spec_l1Bytes.l0 : Nat → Int → List Int → Int → Option (ByteArray)
  | 0, _, _, _ => none
  | k + 1, x0, x3, x4 => if x4 ≥ 0 then (if 0 ≤ (IntKind.u64.wrap (wrap64 (8 * x4))) then (if x3.length < 140737488355328 then (spec_l1Bytes.l0 k x0 (x3 ++ [(shr .u64 x0 (IntKind.u64.wrap (wrap64 (8 * x4)))) % 256]) (wrap64 (x4 - 1))) else (none)) else (none)) else (some (strOfNums x3))
def spec_l1Bytes.f (k : Nat) (a0 : Int) : Option (ByteArray) := spec_l1Bytes.l0 k a0 (([] : List Int)) 7
/-! ### spec_l1Bare: function 75 -/
def spec_l1Bare.l0 : Nat → ByteArray → List Int → Int → Option (ByteArray)
  | 0, _, _, _ => none
  | k + 1, x0, x3, x4 => if x4 < (x0.size : Int) then (if 0 ≤ x4 then (if (bt x0 x4) = 255 then (spec_l1Bare.l0 k x0 x3 (wrap64 (x4 + 1))) else (if x3.length < 140737488355328 then (spec_l1Bare.l0 k x0 (x3 ++ [bt x0 x4]) (wrap64 (x4 + 1))) else (none))) else (none)) else (some (strOfNums x3))
def spec_l1Bare.f (k : Nat) (a0 : ByteArray) : Option (ByteArray) := spec_l1Bare.l0 k a0 (([] : List Int)) 0
/-! ### spec_l1Zeros: function 76 -/
def spec_l1Zeros.l0 : Nat → Int → List Int → Int → Option (ByteArray)
  | 0, _, _, _ => none
  | k + 1, x0, x3, x4 => if x4 < x0 then (if x3.length < 140737488355328 then (spec_l1Zeros.l0 k x0 (x3 ++ [0]) (wrap64 (x4 + 1))) else (none)) else (some (strOfNums x3))
def spec_l1Zeros.f (k : Nat) (a0 : Int) : Option (ByteArray) := spec_l1Zeros.l0 k a0 (([] : List Int)) 0
/-! ### spec_l1Turn: function 84 -/
def spec_l1Turn.f (a0 : Int) (a1 : Int) : Option (Int) := if 0 ≤ (IntKind.u64.wrap (a1)) then (if 0 ≤ (IntKind.u64.wrap (wrap64 (64 - a1))) then (some (Go.bits .or .u64 (shl .u64 a0 (IntKind.u64.wrap (a1))) (shr .u64 a0 (IntKind.u64.wrap (wrap64 (64 - a1)))))) else (none)) else (none)
/-! ### spec_HashBlock: function 77 -/
def spec_HashBlock.l0 : Nat → Int → Int → Int → Int → Int → Int → Int → Int → Int → Int → Option (Int × Int × Int × Int)
  | 0, _, _, _, _, _, _, _, _, _, _ => none
  | k + 1, x5, x6, x7, x8, x9, x10, x157000, x157001, x157002, x157003 => if x10 < 10 then ((spec_l1Turn.f (Go.bits .xor .u64 x8 (IntKind.u64.wrap ((IntKind.u64.wrap (x5 + x6)) + (IntKind.u64.wrap (x9 + 12620524952350641003))))) 39).bind fun t159 => ((spec_l1Turn.f (Go.bits .xor .u64 x6 (IntKind.u64.wrap (x7 + t159))) 21).bind fun t160 => (spec_HashBlock.l0 k t160 (IntKind.u64.wrap (x7 + t159)) t159 (IntKind.u64.wrap ((IntKind.u64.wrap (x5 + x6)) + (IntKind.u64.wrap (x9 + 12620524952350641003)))) (IntKind.u64.wrap (x9 + 12620524952350641003)) (wrap64 (x10 + 1)) x157000 x157001 x157002 x157003))) else (some (Go.bits .xor .u64 x5 x157000, Go.bits .xor .u64 x6 x157001, Go.bits .xor .u64 x7 x157002, Go.bits .xor .u64 x8 x157003))
def spec_HashBlock.f (k : Nat) (a0_0 : Int) (a0_1 : Int) (a0_2 : Int) (a0_3 : Int) (a1_0 : Int) (a1_1 : Int) (a1_2 : Int) (a1_3 : Int) : Option (Int × Int × Int × Int) := spec_HashBlock.l0 k (Go.bits .xor .u64 a0_0 a1_0) (Go.bits .xor .u64 a0_1 a1_1) (Go.bits .xor .u64 a0_2 a1_2) (Go.bits .xor .u64 a0_3 a1_3) 0 0 a0_0 a0_1 a0_2 a0_3
/-! ### spec_l1Word: function 78 -/
def spec_l1Word.l0 : Nat → ByteArray → Int → Int → Int → Option (Int)
  | 0, _, _, _, _ => none
  | k + 1, x0, x1, x5, x6 => if x6 < (wrap64 (x1 + 8)) then (if 0 ≤ x6 then (if x6 < (x0.size : Int) then (spec_l1Word.l0 k x0 x1 (Go.bits .or .u64 (IntKind.u64.wrap (x5 * 256)) (IntKind.u64.wrap (bt x0 x6))) (wrap64 (x6 + 1))) else (none)) else (none)) else (some x5)
def spec_l1Word.f (k : Nat) (a0 : ByteArray) (a1 : Int) : Option (Int) := spec_l1Word.l0 k a0 a1 0 a1
/-! ### spec_HashOf: function 52 -/
def spec_HashOf.l0 : Nat → ByteArray → Int → Int → Int → Int → Int → Option (Int × Int × Int × Int)
  | 0, _, _, _, _, _, _ => none
  | k + 1, x4, x6, x169000, x169001, x169002, x169003 => if x6 < (x4.size : Int) then ((spec_l1Word.f k x4 x6).bind fun t169 => ((spec_l1Word.f k x4 (wrap64 (x6 + 8))).bind fun t170 => ((spec_l1Word.f k x4 (wrap64 (x6 + 16))).bind fun t171 => ((spec_l1Word.f k x4 (wrap64 (x6 + 24))).bind fun t172 => ((spec_HashBlock.f k x169000 x169001 x169002 x169003 t169 t170 t171 t172).bind fun bt173 => (spec_HashOf.l0 k x4 (wrap64 (x6 + 32)) bt173.1 bt173.2.1 bt173.2.2.1 bt173.2.2.2)))))) else (some (x169000, x169001, x169002, x169003))
def spec_HashOf.f (k : Nat) (a0 : ByteArray) : Option (Int × Int × Int × Int) := if (a0.size : Int) > 20000 then (some (0, 0, 0, 0)) else ((spec_l1Bare.f k a0).bind fun t162 => ((some (([128] : List Int) : List Int)).bind fun y163 => (if t162.size + (strOfNums y163).size ≤ 9223372036854775807 then ((spec_l1Zeros.f k (Int.tmod (wrap64 (32 - (Int.tmod (wrap64 ((t162.size : Int) + 9)) 32))) 32)).bind fun t166 => (if (t162 ++ (strOfNums y163)).size + t166.size ≤ 9223372036854775807 then ((spec_l1Bytes.f k (IntKind.u64.wrap ((t162.size : Int)))).bind fun t167 => (if ((t162 ++ (strOfNums y163)) ++ t166).size + t167.size ≤ 9223372036854775807 then (spec_HashOf.l0 k (((t162 ++ (strOfNums y163)) ++ t166) ++ t167) 0 13971524466476933880 3286059910148148165 8210247237615983910 11412903256176698835) else (none))) else (none))) else (none))))
/-! ### spec_HashBytes: function 54 -/
def spec_HashBytes.f (k : Nat) (a0_0 : Int) (a0_1 : Int) (a0_2 : Int) (a0_3 : Int) : Option (ByteArray) := (spec_l1Bytes.f k a0_0).bind fun t178 => ((spec_l1Bytes.f k a0_1).bind fun t179 => (if t178.size + t179.size ≤ 9223372036854775807 then ((spec_l1Bytes.f k a0_2).bind fun t180 => (if (t178 ++ t179).size + t180.size ≤ 9223372036854775807 then ((spec_l1Bytes.f k a0_3).bind fun t181 => (if ((t178 ++ t179) ++ t180).size + t181.size ≤ 9223372036854775807 then (some (((t178 ++ t179) ++ t180) ++ t181)) else (none))) else (none))) else (none)))
/-! ### spec_SlotSum: function 16 -/
def spec_SlotSum.f (k : Nat) (a0_0 : Int) (a0_1 : Int) (a0_2 : Int) (a0_3 : Int) (a0_4 : Int) (a0_5 : Int) (a0_6 : Int) : Option (Int) := (spec_l1Bytes.f k a0_1).bind fun t183 => ((spec_l1Bytes.f k a0_2).bind fun t184 => (if t183.size + t184.size ≤ 9223372036854775807 then ((spec_HashBytes.f k a0_3 a0_4 a0_5 a0_6).bind fun t185 => (if (t183 ++ t184).size + t185.size ≤ 9223372036854775807 then ((spec_HashOf.f k ((t183 ++ t184) ++ t185)).bind fun bt186 => (some (Go.bits .or .u64 bt186.1 1))) else (none))) else (none)))
/-! ### spec_SlotOk: function 26 -/
def spec_SlotOk.f (k : Nat) (a0_0 : Int) (a0_1 : Int) (a0_2 : Int) (a0_3 : Int) (a0_4 : Int) (a0_5 : Int) (a0_6 : Int) : Option (Bool) := (spec_SlotSum.f k a0_0 a0_1 a0_2 a0_3 a0_4 a0_5 a0_6).bind fun t191 => (if a0_0 = t191 then (if a0_1 ≥ 1 then (if a0_1 ≤ 1000000000 then (if a0_2 ≥ 1 then (some (decide (a0_2 ≤ 256))) else (some false)) else (some false)) else (some false)) else (some false))
/-! ### spec_RecordRead: function 30 -/
def spec_RecordRead.j0 : Nat → Bool → Bool → Int → Int → Int → Int → Int → Int → Int → Int → Int → Int → Int → Int → Int → Int → Option (Int × Int × Int × Int × Int × Int × Int)
  | 0, _, _, _, _, _, _, _, _, _, _, _, _, _, _, _, _ => none
  | k + 1, x5, x25, x193000, x193001, x193002, x193003, x193004, x193005, x193006, x193007, x193008, x193009, x193010, x193011, x193012, x193013 => if x25 = true then (some (wrap64 (x193001), wrap64 (x193002), x193003, x193004, x193005, x193006, 1)) else (if x5 = true then (some (wrap64 (x193008), wrap64 (x193009), x193010, x193011, x193012, x193013, 2)) else (some (0, 0, 0, 0, 0, 0, 0)))
def spec_RecordRead.f (k : Nat) (a0_0 : Int) (a0_1 : Int) (a0_2 : Int) (a0_3 : Int) (a0_4 : Int) (a0_5 : Int) (a0_6 : Int) (a0_7 : Int) (a0_8 : Int) (a0_9 : Int) (a0_10 : Int) (a0_11 : Int) (a0_12 : Int) (a0_13 : Int) : Option (Int × Int × Int × Int × Int × Int × Int) := (spec_SlotOk.f k a0_0 a0_1 a0_2 a0_3 a0_4 a0_5 a0_6).bind fun t194 => ((spec_SlotOk.f k a0_7 a0_8 a0_9 a0_10 a0_11 a0_12 a0_13).bind fun t195 => (if t194 = true then (if t195 = true then (spec_RecordRead.j0 k t195 (decide (a0_1 ≥ a0_8)) a0_0 a0_1 a0_2 a0_3 a0_4 a0_5 a0_6 a0_7 a0_8 a0_9 a0_10 a0_11 a0_12 a0_13) else (spec_RecordRead.j0 k t195 true a0_0 a0_1 a0_2 a0_3 a0_4 a0_5 a0_6 a0_7 a0_8 a0_9 a0_10 a0_11 a0_12 a0_13)) else (spec_RecordRead.j0 k t195 false a0_0 a0_1 a0_2 a0_3 a0_4 a0_5 a0_6 a0_7 a0_8 a0_9 a0_10 a0_11 a0_12 a0_13)))
/-! ### binary_bigEndian_AppendUint64: function 56 -/
def binary_bigEndian_AppendUint64.f  (l1 : List Int) (a2 : Int) : Option (List Int) := (some (([(a2 / 72057594037927936) % 256, (a2 / 281474976710656) % 256, (a2 / 1099511627776) % 256, (a2 / 4294967296) % 256, (a2 / 16777216) % 256, (a2 / 65536) % 256, (a2 / 256) % 256, (a2) % 256] : List Int) : List Int)).bind fun y197 => (if l1.length + y197.length < 140737488355328 then (some (l1 ++ y197)) else (none))
/-! ### bits_RotateLeft64: function 85 -/
def bits_RotateLeft64.f (a0 : Int) (a1 : Int) : Option (Int) := if 0 ≤ (Go.bits .and .u64 (IntKind.u64.wrap (a1)) 63) then (if 0 ≤ (IntKind.u64.wrap (64 - (Go.bits .and .u64 (IntKind.u64.wrap (a1)) 63))) then (some (Go.bits .or .u64 (shl .u64 a0 (Go.bits .and .u64 (IntKind.u64.wrap (a1)) 63)) (shr .u64 a0 (IntKind.u64.wrap (64 - (Go.bits .and .u64 (IntKind.u64.wrap (a1)) 63)))))) else (none)) else (none)
/-! ### impl_HashBlock: function 79 -/
def impl_HashBlock.l0 : Nat → Int → Int → Int → Int → Int → Int → Int → Int → Int → Int → Option (Int × Int × Int × Int)
  | 0, _, _, _, _, _, _, _, _, _, _ => none
  | k + 1, x5, x6, x7, x8, x9, x10, x204000, x204001, x204002, x204003 => if x10 < 10 then ((bits_RotateLeft64.f (Go.bits .xor .u64 x8 (IntKind.u64.wrap (x5 + (IntKind.u64.wrap (x6 + (IntKind.u64.wrap (x9 + 12620524952350641003))))))) 39).bind fun t206 => ((bits_RotateLeft64.f (Go.bits .xor .u64 x6 (IntKind.u64.wrap (x7 + t206))) 21).bind fun t207 => (impl_HashBlock.l0 k t207 (IntKind.u64.wrap (x7 + t206)) t206 (IntKind.u64.wrap (x5 + (IntKind.u64.wrap (x6 + (IntKind.u64.wrap (x9 + 12620524952350641003)))))) (IntKind.u64.wrap (x9 + 12620524952350641003)) (wrap64 (x10 + 1)) x204000 x204001 x204002 x204003))) else (some (Go.bits .xor .u64 x5 x204000, Go.bits .xor .u64 x6 x204001, Go.bits .xor .u64 x7 x204002, Go.bits .xor .u64 x8 x204003))
def impl_HashBlock.f (k : Nat) (a0_0 : Int) (a0_1 : Int) (a0_2 : Int) (a0_3 : Int) (a1_0 : Int) (a1_1 : Int) (a1_2 : Int) (a1_3 : Int) : Option (Int × Int × Int × Int) := impl_HashBlock.l0 k (Go.bits .xor .u64 a0_0 a1_0) (Go.bits .xor .u64 a0_1 a1_1) (Go.bits .xor .u64 a0_2 a1_2) (Go.bits .xor .u64 a0_3 a1_3) 0 0 a0_0 a0_1 a0_2 a0_3
/-! ### impl_digestOf: function 80 -/
def impl_digestOf.f (l0 : List Int) : Option (Int × Int × Int × Int) := (binary_bigEndian_Uint64.f l0).bind fun t209 => (if 8 ≤ (l0.length : Int) then ((binary_bigEndian_Uint64.f (l0.drop 8)).bind fun t211 => (if 16 ≤ (l0.length : Int) then ((binary_bigEndian_Uint64.f (l0.drop 16)).bind fun t213 => (if 24 ≤ (l0.length : Int) then ((binary_bigEndian_Uint64.f (l0.drop 24)).bind fun t215 => (some (t209, t211, t213, t215))) else (none))) else (none))) else (none))
/-! ### impl_HashOf: function 57 -/
mutual
def impl_HashOf.l0 : Nat → ByteArray → List Int → Int → Option (Int × Int × Int × Int)
  | 0, _, _, _ => none
  | k + 1, x0, x3, x4 => if x4 < (x0.size : Int) then (if 0 ≤ x4 then (if (bt x0 x4) = 255 then (impl_HashOf.l0 k x0 x3 (wrap64 (x4 + 1))) else (if x3.length < 140737488355328 then (impl_HashOf.l0 k x0 (x3 ++ [bt x0 x4]) (wrap64 (x4 + 1))) else (none))) else (none)) else (if x3.length < 140737488355328 then (impl_HashOf.l1 k (x3 ++ [128]) (IntKind.u64.wrap ((x3.length : Int)))) else (none))
def impl_HashOf.l1 : Nat → List Int → Int → Option (Int × Int × Int × Int)
  | 0, _, _ => none
  | k + 1, x3, x5 => if ((x3.length : Int) % 32) = 24 then ((binary_bigEndian_AppendUint64.f x3 x5).bind fun t226 => (impl_HashOf.l2 k t226 0 13971524466476933880 3286059910148148165 8210247237615983910 11412903256176698835)) else (if x3.length < 140737488355328 then (impl_HashOf.l1 k (x3 ++ [0]) x5) else (none))
def impl_HashOf.l2 : Nat → List Int → Int → Int → Int → Int → Int → Option (Int × Int × Int × Int)
  | 0, _, _, _, _, _, _ => none
  | k + 1, x3, x7, x230000, x230001, x230002, x230003 => if x7 < (x3.length : Int) then (if 0 ≤ x7 then (if x7 ≤ (wrap64 (x7 + 32)) then (if (wrap64 (x7 + 32)) ≤ (x3.length : Int) then ((impl_digestOf.f ((x3.take ((wrap64 (x7 + 32)) : Int).toNat).drop (x7 : Int).toNat)).bind fun bt234 => ((impl_HashBlock.f k x230000 x230001 x230002 x230003 bt234.1 bt234.2.1 bt234.2.2.1 bt234.2.2.2).bind fun bt238 => (impl_HashOf.l2 k x3 (wrap64 (x7 + 32)) bt238.1 bt238.2.1 bt238.2.2.1 bt238.2.2.2))) else (none)) else (none)) else (none)) else (some (x230000, x230001, x230002, x230003))
end
def impl_HashOf.f (k : Nat) (a0 : ByteArray) : Option (Int × Int × Int × Int) := if (a0.size : Int) > 20000 then (some (0, 0, 0, 0)) else (impl_HashOf.l0 k a0 ([] : List Int) 0)
/-! ### impl_SlotSum: function 18 -/
def slot_be8.f (x : Int) : List Int := [(x / 72057594037927936) % 256, (x / 281474976710656) % 256, (x / 1099511627776) % 256, (x / 4294967296) % 256, (x / 16777216) % 256, (x / 65536) % 256, (x / 256) % 256, x % 256]
def slot_sum.f (ws : List Int) (j : Nat) : List Int := (ws.take j).flatMap slot_be8.f
def impl_SlotSum.f (k : Nat) (a0_0 : Int) (a0_1 : Int) (a0_2 : Int) (a0_3 : Int) (a0_4 : Int) (a0_5 : Int) (a0_6 : Int) : Option (Int) := (impl_HashOf.f k (strOfNums (slot_sum.f [a0_1, a0_2, a0_3, a0_4, a0_5, a0_6] 6))).bind fun bt => some (Go.bits .or .u64 bt.1 1)
/-! ### impl_SlotOk: function 27 -/
def impl_SlotOk.f (k : Nat) (a0_0 : Int) (a0_1 : Int) (a0_2 : Int) (a0_3 : Int) (a0_4 : Int) (a0_5 : Int) (a0_6 : Int) : Option (Bool) := (impl_SlotSum.f k a0_0 a0_1 a0_2 a0_3 a0_4 a0_5 a0_6).bind fun t243 => (if a0_0 = t243 then (if a0_1 ≥ 1 then (if a0_1 ≤ 1000000000 then (if a0_2 ≥ 1 then (some (decide (a0_2 ≤ 256))) else (some false)) else (some false)) else (some false)) else (some false))
/-! ### impl_RecordRead: function 31 -/
def impl_RecordRead.f (k : Nat) (a0_0 : Int) (a0_1 : Int) (a0_2 : Int) (a0_3 : Int) (a0_4 : Int) (a0_5 : Int) (a0_6 : Int) (a0_7 : Int) (a0_8 : Int) (a0_9 : Int) (a0_10 : Int) (a0_11 : Int) (a0_12 : Int) (a0_13 : Int) : Option (Int × Int × Int × Int × Int × Int × Int) := (impl_SlotOk.f k a0_0 a0_1 a0_2 a0_3 a0_4 a0_5 a0_6).bind fun t247 => (if t247 = true then ((impl_SlotOk.f k a0_7 a0_8 a0_9 a0_10 a0_11 a0_12 a0_13).bind fun t248 => (if t248 = true then (if 1 = 0 then (some (wrap64 (a0_8), wrap64 (a0_9), a0_10, a0_11, a0_12, a0_13, 2)) else (if a0_8 > a0_1 then (some (wrap64 (a0_8), wrap64 (a0_9), a0_10, a0_11, a0_12, a0_13, 2)) else (some (wrap64 (a0_1), wrap64 (a0_2), a0_3, a0_4, a0_5, a0_6, 1)))) else (some (wrap64 (a0_1), wrap64 (a0_2), a0_3, a0_4, a0_5, a0_6, 1)))) else ((impl_SlotOk.f k a0_7 a0_8 a0_9 a0_10 a0_11 a0_12 a0_13).bind fun t249 => (if t249 = true then (if 0 = 0 then (some (wrap64 (a0_8), wrap64 (a0_9), a0_10, a0_11, a0_12, a0_13, 2)) else (if a0_8 > 0 then (some (wrap64 (a0_8), wrap64 (a0_9), a0_10, a0_11, a0_12, a0_13, 2)) else (some (0, 0, 0, 0, 0, 0, 0)))) else (some (0, 0, 0, 0, 0, 0, 0)))))
/-! ### laws_eqDigest: function 63 -/
def laws_eqDigest.f (a0_0 : Int) (a0_1 : Int) (a0_2 : Int) (a0_3 : Int) (a1_0 : Int) (a1_1 : Int) (a1_2 : Int) (a1_3 : Int) : Option (Bool) := if a0_0 = a1_0 then (if a0_1 = a1_1 then (if a0_2 = a1_2 then (if a0_3 = a1_3 then (some true) else (some false)) else (some false)) else (some false)) else (some false)
/-! ### laws_eqRecord: function 32 -/
def laws_eqRecord.f (a0_0 : Int) (a0_1 : Int) (a0_2 : Int) (a0_3 : Int) (a0_4 : Int) (a0_5 : Int) (a1_0 : Int) (a1_1 : Int) (a1_2 : Int) (a1_3 : Int) (a1_4 : Int) (a1_5 : Int) : Option (Bool) := if a0_0 = a1_0 then (if a0_1 = a1_1 then ((laws_eqDigest.f a0_2 a0_3 a0_4 a0_5 a1_2 a1_3 a1_4 a1_5).bind fun t254 => (if t254 = true then (some true) else (some false))) else (some false)) else (some false)
/-! ### laws_FnExactRecordRead: function 7 -/
def laws_FnExactRecordRead.f (k : Nat) (a0_0 : Int) (a0_1 : Int) (a0_2 : Int) (a0_3 : Int) (a0_4 : Int) (a0_5 : Int) (a0_6 : Int) (a0_7 : Int) (a0_8 : Int) (a0_9 : Int) (a0_10 : Int) (a0_11 : Int) (a0_12 : Int) (a0_13 : Int) : Option (Bool) := (laws_toDisk.f a0_0 a0_1 a0_2 a0_3 a0_4 a0_5 a0_6 a0_7 a0_8 a0_9 a0_10 a0_11 a0_12 a0_13).bind fun bt256 => ((spec_RecordRead.f k bt256.1 bt256.2.1 bt256.2.2.1 bt256.2.2.2.1 bt256.2.2.2.2.1 bt256.2.2.2.2.2.1 bt256.2.2.2.2.2.2.1 bt256.2.2.2.2.2.2.2.1 bt256.2.2.2.2.2.2.2.2.1 bt256.2.2.2.2.2.2.2.2.2.1 bt256.2.2.2.2.2.2.2.2.2.2.1 bt256.2.2.2.2.2.2.2.2.2.2.2.1 bt256.2.2.2.2.2.2.2.2.2.2.2.2.1 bt256.2.2.2.2.2.2.2.2.2.2.2.2.2).bind fun bt270 => ((laws_toDisk.f a0_0 a0_1 a0_2 a0_3 a0_4 a0_5 a0_6 a0_7 a0_8 a0_9 a0_10 a0_11 a0_12 a0_13).bind fun bt278 => ((impl_RecordRead.f k bt278.1 bt278.2.1 bt278.2.2.1 bt278.2.2.2.1 bt278.2.2.2.2.1 bt278.2.2.2.2.2.1 bt278.2.2.2.2.2.2.1 bt278.2.2.2.2.2.2.2.1 bt278.2.2.2.2.2.2.2.2.1 bt278.2.2.2.2.2.2.2.2.2.1 bt278.2.2.2.2.2.2.2.2.2.2.1 bt278.2.2.2.2.2.2.2.2.2.2.2.1 bt278.2.2.2.2.2.2.2.2.2.2.2.2.1 bt278.2.2.2.2.2.2.2.2.2.2.2.2.2).bind fun bt292 => ((laws_eqRecord.f bt292.1 bt292.2.1 bt292.2.2.1 bt292.2.2.2.1 bt292.2.2.2.2.1 bt292.2.2.2.2.2.1 bt270.1 bt270.2.1 bt270.2.2.1 bt270.2.2.2.1 bt270.2.2.2.2.1 bt270.2.2.2.2.2.1).bind fun t300 => (if t300 = true then (if bt292.2.2.2.2.2.2 = bt270.2.2.2.2.2.2 then (some true) else (some false)) else (some false))))))
/-! ### spec_WitnessHeld: function 34 -/
def spec_WitnessHeld.f (k : Nat) (a0_0 : Int) (a0_1 : Int) (a0_2 : Int) (a0_3 : Int) (a0_4 : Int) (a0_5 : Int) (a0_6 : Int) (a0_7 : Int) (a0_8 : Int) (a0_9 : Int) (a0_10 : Int) (a0_11 : Int) (a0_12 : Int) (a0_13 : Int) : Option (Int × Int × Int × Int × Int) := (spec_RecordRead.f k a0_0 a0_1 a0_2 a0_3 a0_4 a0_5 a0_6 a0_7 a0_8 a0_9 a0_10 a0_11 a0_12 a0_13).bind fun bt303 => (if bt303.2.2.2.2.2.2 = 0 then ((spec_HashOf.f k (⟨#[]⟩ : ByteArray)).bind fun bt311 => (some (0, bt311.1, bt311.2.1, bt311.2.2.1, bt311.2.2.2))) else (some (bt303.2.1, bt303.2.2.1, bt303.2.2.2.1, bt303.2.2.2.2.1, bt303.2.2.2.2.2.1)))
/-! ### impl_WitnessHeld: function 35 -/
def impl_WitnessHeld.f (k : Nat) (a0_0 : Int) (a0_1 : Int) (a0_2 : Int) (a0_3 : Int) (a0_4 : Int) (a0_5 : Int) (a0_6 : Int) (a0_7 : Int) (a0_8 : Int) (a0_9 : Int) (a0_10 : Int) (a0_11 : Int) (a0_12 : Int) (a0_13 : Int) : Option (Int × Int × Int × Int × Int) := (impl_RecordRead.f k a0_0 a0_1 a0_2 a0_3 a0_4 a0_5 a0_6 a0_7 a0_8 a0_9 a0_10 a0_11 a0_12 a0_13).bind fun bt317 => (if bt317.2.2.2.2.2.2 = 0 then ((impl_HashOf.f k (⟨#[]⟩ : ByteArray)).bind fun bt325 => (some (0, bt325.1, bt325.2.1, bt325.2.2.1, bt325.2.2.2))) else (some (bt317.2.1, bt317.2.2.1, bt317.2.2.2.1, bt317.2.2.2.2.1, bt317.2.2.2.2.2.1)))
/-! ### laws_eqPoint: function 36 -/
def laws_eqPoint.f (a0_0 : Int) (a0_1 : Int) (a0_2 : Int) (a0_3 : Int) (a0_4 : Int) (a1_0 : Int) (a1_1 : Int) (a1_2 : Int) (a1_3 : Int) (a1_4 : Int) : Option (Bool) := if a0_0 = a1_0 then ((laws_eqDigest.f a0_1 a0_2 a0_3 a0_4 a1_1 a1_2 a1_3 a1_4).bind fun t331 => (if t331 = true then (some true) else (some false))) else (some false)
/-! ### laws_FnExactWitnessHeld: function 9 -/
def laws_FnExactWitnessHeld.f (k : Nat) (a0_0 : Int) (a0_1 : Int) (a0_2 : Int) (a0_3 : Int) (a0_4 : Int) (a0_5 : Int) (a0_6 : Int) (a0_7 : Int) (a0_8 : Int) (a0_9 : Int) (a0_10 : Int) (a0_11 : Int) (a0_12 : Int) (a0_13 : Int) : Option (Bool) := (laws_toDisk.f a0_0 a0_1 a0_2 a0_3 a0_4 a0_5 a0_6 a0_7 a0_8 a0_9 a0_10 a0_11 a0_12 a0_13).bind fun bt333 => ((spec_WitnessHeld.f k bt333.1 bt333.2.1 bt333.2.2.1 bt333.2.2.2.1 bt333.2.2.2.2.1 bt333.2.2.2.2.2.1 bt333.2.2.2.2.2.2.1 bt333.2.2.2.2.2.2.2.1 bt333.2.2.2.2.2.2.2.2.1 bt333.2.2.2.2.2.2.2.2.2.1 bt333.2.2.2.2.2.2.2.2.2.2.1 bt333.2.2.2.2.2.2.2.2.2.2.2.1 bt333.2.2.2.2.2.2.2.2.2.2.2.2.1 bt333.2.2.2.2.2.2.2.2.2.2.2.2.2).bind fun bt347 => ((laws_toDisk.f a0_0 a0_1 a0_2 a0_3 a0_4 a0_5 a0_6 a0_7 a0_8 a0_9 a0_10 a0_11 a0_12 a0_13).bind fun bt353 => ((impl_WitnessHeld.f k bt353.1 bt353.2.1 bt353.2.2.1 bt353.2.2.2.1 bt353.2.2.2.2.1 bt353.2.2.2.2.2.1 bt353.2.2.2.2.2.2.1 bt353.2.2.2.2.2.2.2.1 bt353.2.2.2.2.2.2.2.2.1 bt353.2.2.2.2.2.2.2.2.2.1 bt353.2.2.2.2.2.2.2.2.2.2.1 bt353.2.2.2.2.2.2.2.2.2.2.2.1 bt353.2.2.2.2.2.2.2.2.2.2.2.2.1 bt353.2.2.2.2.2.2.2.2.2.2.2.2.2).bind fun bt367 => ((laws_eqPoint.f bt367.1 bt367.2.1 bt367.2.2.1 bt367.2.2.2.1 bt367.2.2.2.2 bt347.1 bt347.2.1 bt347.2.2.1 bt347.2.2.2.1 bt347.2.2.2.2).bind fun t373 => (if t373 = true then (some true) else (some false))))))
end Go.Proofs.Ytcgfgodpiobcfaa.S

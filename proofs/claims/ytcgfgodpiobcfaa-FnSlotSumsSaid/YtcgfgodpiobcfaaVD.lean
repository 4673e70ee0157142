/- What functions of the given program compute, as Lean functions over numbers and lists; written by a program of this session's. No condition. -/
import Derived.Test.YtcgfgodpiobcfaaProg
import Derived.Below
import Derived.Deep.Draws
import Derived.Deep.AppendLies
import Derived.Maps.AppendAt
import Derived.OwnWalk
import Derived.Laws.BytesArg
import Derived.Laws.MakeOwn
import Derived.Laws.OwnMore
import Derived.Deep.OwnRows
import Derived.Tactics
import Derived.Lib.ConvBytes
import Derived.Laws.Slices
import Derived.WalkKit
import Derived.KernelRfl
import Derived.RowKit3
import Derived.Deep.LoopGhost
import Derived.Deep.QuietTactic
import Derived.BigQuiet
import Derived.WideLaws
import Derived.Deep.DeepCutAuto
import Derived.Deep.CutBlock
import Derived.Deep.RegionHeld3
import Derived.Laws.Rows
import Derived.Lib.AppendStr
import Derived.ArgAppend
import Derived.Laws.IdiomCopy
import Derived.OrdersHeld
import Derived.Laws.BitsLemmas
import Derived.RowKit
import Derived.StillTailTactics
import Derived.Test.YtcgfgodpiobcfaaWWords
import Derived.Test.YtcgfgodpiobcfaaWLast
import Derived.Test.YtcgfgodpiobcfaaWTab
import Derived.Test.YtcgfgodpiobcfaaWFour
import Derived.Test.YtcgfgodpiobcfaaWQPut
import Derived.Test.YtcgfgodpiobcfaaWApart
import Derived.Test.YtcgfgodpiobcfaaWArr
import Derived.Test.YtcgfgodpiobcfaaWZeros
import Derived.Test.YtcgfgodpiobcfaaWFoot
import Derived.Test.YtcgfgodpiobcfaaWKept
import Derived.Test.YtcgfgodpiobcfaaWShare
import Derived.Test.YtcgfgodpiobcfaaWN
import Derived.Test.YtcgfgodpiobcfaaWFootNe
import Derived.Test.YtcgfgodpiobcfaaWAt
import Derived.Test.YtcgfgodpiobcfaaWEqStruct
import Derived.Test.YtcgfgodpiobcfaaWRepsOne
import Derived.Test.YtcgfgodpiobcfaaWInv
import Derived.Test.YtcgfgodpiobcfaaWInvWords
import Derived.Test.YtcgfgodpiobcfaaWGuard
import Derived.Test.YtcgfgodpiobcfaaWNEv
import Derived.Test.YtcgfgodpiobcfaaWMore
import Derived.Test.YtcgfgodpiobcfaaWCopy
namespace Go.Proofs.Ytcgfgodpiobcfaa.V
open Go.RowKit Go.Proofs.YtcgfgodpiobcfaaW.PrintWords Go.Proofs.YtcgfgodpiobcfaaW.PrintLast Go.Proofs.YtcgfgodpiobcfaaW.PrintMore
attribute [local go_sem] max2_int min2_int max_two min_two max_three min_three max_four min_four   -- for this text's walks alone
set_option linter.unusedVariables false
set_option linter.unusedSimpArgs false



def errW : Option Int → Value
  | none => .nilIface
  | some c => .iface 0 (.int .i64 c)
theorem errW_none : errW none = .nilIface := rfl
theorem errW_some (c : Int) : errW (some c) = .iface 0 (.int .i64 c) := rfl

theorem info5 : (Try.prog.info? 5).map (fun i => (i.zero, i.size, i.bytes)) = some (some (.int .u8 0), 1, 1) := by kernel_rfl
-- the values' own types


/-! ### binary_bigEndian_Uint64: function 86 -/
def binary_bigEndian_Uint64.f  (l1 : List Int) : Option (Int) := if 7 < (l1.length : Int) then (if 6 < (l1.length : Int) then (if 5 < (l1.length : Int) then (if 4 < (l1.length : Int) then (if 3 < (l1.length : Int) then (if 2 < (l1.length : Int) then (if 1 < (l1.length : Int) then (if 0 < (l1.length : Int) then (some (Go.bits .or .u64 (Go.bits .or .u64 (Go.bits .or .u64 (Go.bits .or .u64 (Go.bits .or .u64 (Go.bits .or .u64 (Go.bits .or .u64 (IntKind.u64.wrap (rd l1 7)) (IntKind.u64.wrap ((IntKind.u64.wrap (rd l1 6)) * 256))) (IntKind.u64.wrap ((IntKind.u64.wrap (rd l1 5)) * 65536))) (IntKind.u64.wrap ((IntKind.u64.wrap (rd l1 4)) * 16777216))) (IntKind.u64.wrap ((IntKind.u64.wrap (rd l1 3)) * 4294967296))) (IntKind.u64.wrap ((IntKind.u64.wrap (rd l1 2)) * 1099511627776))) (IntKind.u64.wrap ((IntKind.u64.wrap (rd l1 1)) * 281474976710656))) (IntKind.u64.wrap ((IntKind.u64.wrap (rd l1 0)) * 72057594037927936)))) else (none)) else (none)) else (none)) else (none)) else (none)) else (none)) else (none)) else (none)
/-! ### spec_l1Bytes: function 53 -/
def spec_l1Bytes.l0 : Nat → Int → List Int → Int → Option (ByteArray)
  | 0, _, _, _ => none
  | k + 1, x0, x3, x4 => if x4 ≥ 0 then (if 0 ≤ (IntKind.u64.wrap (wrap64 (8 * x4))) then (if x3.length < 140737488355328 then (spec_l1Bytes.l0 k x0 (x3 ++ [(shr .u64 x0 (IntKind.u64.wrap (wrap64 (8 * x4)))) % 256]) (wrap64 (x4 - 1))) else (none)) else (none)) else (some (strOfNums x3))
def spec_l1Bytes.f (k : Nat) (a0 : Int) : Option (ByteArray) := spec_l1Bytes.l0 k a0 (([] : List Int)) 7
/-! ### spec_l1Bare: function 75 -/
def spec_l1Bare.l0 : Nat → ByteArray → List Int → Int → Option (ByteArray)
  | 0, _, _, _ => none
  | k + 1, x0, x3, x4 => if x4 < (x0.size : Int) then (if 0 ≤ x4 then (if (bt x0 x4) = 255 then (spec_l1Bare.l0 k x0 x3 (wrap64 (x4 + 1))) else (if x3.length < 140737488355328 then (spec_l1Bare.l0 k x0 (x3 ++ [bt x0 x4]) (wrap64 (x4 + 1))) else (none))) else (none)) else (some (strOfNums x3))
def spec_l1Bare.f (k : Nat) (a0 : ByteArray) : Option (ByteArray) := spec_l1Bare.l0 k a0 (([] : List Int)) 0
/-! ### spec_l1Zeros: function 76 -/
def spec_l1Zeros.l0 : Nat → Int → List Int → Int → Option (ByteArray)
  | 0, _, _, _ => none
  | k + 1, x0, x3, x4 => if x4 < x0 then (if x3.length < 140737488355328 then (spec_l1Zeros.l0 k x0 (x3 ++ [0]) (wrap64 (x4 + 1))) else (none)) else (some (strOfNums x3))
def spec_l1Zeros.f (k : Nat) (a0 : Int) : Option (ByteArray) := spec_l1Zeros.l0 k a0 (([] : List Int)) 0
/-! ### spec_l1Turn: function 84 -/
def spec_l1Turn.f (a0 : Int) (a1 : Int) : Option (Int) := if 0 ≤ (IntKind.u64.wrap (a1)) then (if 0 ≤ (IntKind.u64.wrap (wrap64 (64 - a1))) then (some (Go.bits .or .u64 (shl .u64 a0 (IntKind.u64.wrap (a1))) (shr .u64 a0 (IntKind.u64.wrap (wrap64 (64 - a1)))))) else (none)) else (none)
/-! ### spec_HashBlock: function 77 -/
def spec_HashBlock.l0 : Nat → Int → Int → Int → Int → Int → Int → Int → Int → Int → Int → Option (Int × Int × Int × Int)
  | 0, _, _, _, _, _, _, _, _, _, _ => none
  | k + 1, x5, x6, x7, x8, x9, x10, x130000, x130001, x130002, x130003 => if x10 < 10 then ((spec_l1Turn.f (Go.bits .xor .u64 x8 (IntKind.u64.wrap ((IntKind.u64.wrap (x5 + x6)) + (IntKind.u64.wrap (x9 + 12620524952350641003))))) 39).bind fun t132 => ((spec_l1Turn.f (Go.bits .xor .u64 x6 (IntKind.u64.wrap (x7 + t132))) 21).bind fun t133 => (spec_HashBlock.l0 k t133 (IntKind.u64.wrap (x7 + t132)) t132 (IntKind.u64.wrap ((IntKind.u64.wrap (x5 + x6)) + (IntKind.u64.wrap (x9 + 12620524952350641003)))) (IntKind.u64.wrap (x9 + 12620524952350641003)) (wrap64 (x10 + 1)) x130000 x130001 x130002 x130003))) else (some (Go.bits .xor .u64 x5 x130000, Go.bits .xor .u64 x6 x130001, Go.bits .xor .u64 x7 x130002, Go.bits .xor .u64 x8 x130003))
def spec_HashBlock.f (k : Nat) (a0_0 : Int) (a0_1 : Int) (a0_2 : Int) (a0_3 : Int) (a1_0 : Int) (a1_1 : Int) (a1_2 : Int) (a1_3 : Int) : Option (Int × Int × Int × Int) := spec_HashBlock.l0 k (Go.bits .xor .u64 a0_0 a1_0) (Go.bits .xor .u64 a0_1 a1_1) (Go.bits .xor .u64 a0_2 a1_2) (Go.bits .xor .u64 a0_3 a1_3) 0 0 a0_0 a0_1 a0_2 a0_3
/-! ### spec_l1Word: function 78 -/
def spec_l1Word.l0 : Nat → ByteArray → Int → Int → Int → Option (Int)
  | 0, _, _, _, _ => none
  | k + 1, x0, x1, x5, x6 => if x6 < (wrap64 (x1 + 8)) then (if 0 ≤ x6 then (if x6 < (x0.size : Int) then (spec_l1Word.l0 k x0 x1 (Go.bits .or .u64 (IntKind.u64.wrap (x5 * 256)) (IntKind.u64.wrap (bt x0 x6))) (wrap64 (x6 + 1))) else (none)) else (none)) else (some x5)
def spec_l1Word.f (k : Nat) (a0 : ByteArray) (a1 : Int) : Option (Int) := spec_l1Word.l0 k a0 a1 0 a1
/-! ### spec_HashOf: function 52 -/
def spec_HashOf.l0 : Nat → ByteArray → Int → Int → Int → Int → Int → Option (Int × Int × Int × Int)
  | 0, _, _, _, _, _, _ => none
  | k + 1, x4, x6, x142000, x142001, x142002, x142003 => if x6 < (x4.size : Int) then ((spec_l1Word.f k x4 x6).bind fun t142 => ((spec_l1Word.f k x4 (wrap64 (x6 + 8))).bind fun t143 => ((spec_l1Word.f k x4 (wrap64 (x6 + 16))).bind fun t144 => ((spec_l1Word.f k x4 (wrap64 (x6 + 24))).bind fun t145 => ((spec_HashBlock.f k x142000 x142001 x142002 x142003 t142 t143 t144 t145).bind fun bt146 => (spec_HashOf.l0 k x4 (wrap64 (x6 + 32)) bt146.1 bt146.2.1 bt146.2.2.1 bt146.2.2.2)))))) else (some (x142000, x142001, x142002, x142003))
def spec_HashOf.f (k : Nat) (a0 : ByteArray) : Option (Int × Int × Int × Int) := if (a0.size : Int) > 20000 then (some (0, 0, 0, 0)) else ((spec_l1Bare.f k a0).bind fun t135 => ((some (([128] : List Int) : List Int)).bind fun y136 => (if t135.size + (strOfNums y136).size ≤ 9223372036854775807 then ((spec_l1Zeros.f k (Int.tmod (wrap64 (32 - (Int.tmod (wrap64 ((t135.size : Int) + 9)) 32))) 32)).bind fun t139 => (if (t135 ++ (strOfNums y136)).size + t139.size ≤ 9223372036854775807 then ((spec_l1Bytes.f k (IntKind.u64.wrap ((t135.size : Int)))).bind fun t140 => (if ((t135 ++ (strOfNums y136)) ++ t139).size + t140.size ≤ 9223372036854775807 then (spec_HashOf.l0 k (((t135 ++ (strOfNums y136)) ++ t139) ++ t140) 0 13971524466476933880 3286059910148148165 8210247237615983910 11412903256176698835) else (none))) else (none))) else (none))))
/-! ### spec_HashBytes: function 54 -/
def spec_HashBytes.f (k : Nat) (a0_0 : Int) (a0_1 : Int) (a0_2 : Int) (a0_3 : Int) : Option (ByteArray) := (spec_l1Bytes.f k a0_0).bind fun t151 => ((spec_l1Bytes.f k a0_1).bind fun t152 => (if t151.size + t152.size ≤ 9223372036854775807 then ((spec_l1Bytes.f k a0_2).bind fun t153 => (if (t151 ++ t152).size + t153.size ≤ 9223372036854775807 then ((spec_l1Bytes.f k a0_3).bind fun t154 => (if ((t151 ++ t152) ++ t153).size + t154.size ≤ 9223372036854775807 then (some (((t151 ++ t152) ++ t153) ++ t154)) else (none))) else (none))) else (none)))
/-! ### spec_SlotSum: function 16 -/
def spec_SlotSum.f (k : Nat) (a0_0 : Int) (a0_1 : Int) (a0_2 : Int) (a0_3 : Int) (a0_4 : Int) (a0_5 : Int) (a0_6 : Int) : Option (Int) := (spec_l1Bytes.f k a0_1).bind fun t156 => ((spec_l1Bytes.f k a0_2).bind fun t157 => (if t156.size + t157.size ≤ 9223372036854775807 then ((spec_HashBytes.f k a0_3 a0_4 a0_5 a0_6).bind fun t158 => (if (t156 ++ t157).size + t158.size ≤ 9223372036854775807 then ((spec_HashOf.f k ((t156 ++ t157) ++ t158)).bind fun bt159 => (some (Go.bits .or .u64 bt159.1 1))) else (none))) else (none)))
/-! ### binary_bigEndian_AppendUint64: function 56 -/
def binary_bigEndian_AppendUint64.f  (l1 : List Int) (a2 : Int) : Option (List Int) := (some (([(a2 / 72057594037927936) % 256, (a2 / 281474976710656) % 256, (a2 / 1099511627776) % 256, (a2 / 4294967296) % 256, (a2 / 16777216) % 256, (a2 / 65536) % 256, (a2 / 256) % 256, (a2) % 256] : List Int) : List Int)).bind fun y164 => (if l1.length + y164.length < 140737488355328 then (some (l1 ++ y164)) else (none))
/-! ### bits_RotateLeft64: function 85 -/
def bits_RotateLeft64.f (a0 : Int) (a1 : Int) : Option (Int) := if 0 ≤ (Go.bits .and .u64 (IntKind.u64.wrap (a1)) 63) then (if 0 ≤ (IntKind.u64.wrap (64 - (Go.bits .and .u64 (IntKind.u64.wrap (a1)) 63))) then (some (Go.bits .or .u64 (shl .u64 a0 (Go.bits .and .u64 (IntKind.u64.wrap (a1)) 63)) (shr .u64 a0 (IntKind.u64.wrap (64 - (Go.bits .and .u64 (IntKind.u64.wrap (a1)) 63)))))) else (none)) else (none)
/-! ### impl_HashBlock: function 79 -/
def impl_HashBlock.l0 : Nat → Int → Int → Int → Int → Int → Int → Int → Int → Int → Int → Option (Int × Int × Int × Int)
  | 0, _, _, _, _, _, _, _, _, _, _ => none
  | k + 1, x5, x6, x7, x8, x9, x10, x171000, x171001, x171002, x171003 => if x10 < 10 then ((bits_RotateLeft64.f (Go.bits .xor .u64 x8 (IntKind.u64.wrap (x5 + (IntKind.u64.wrap (x6 + (IntKind.u64.wrap (x9 + 12620524952350641003))))))) 39).bind fun t173 => ((bits_RotateLeft64.f (Go.bits .xor .u64 x6 (IntKind.u64.wrap (x7 + t173))) 21).bind fun t174 => (impl_HashBlock.l0 k t174 (IntKind.u64.wrap (x7 + t173)) t173 (IntKind.u64.wrap (x5 + (IntKind.u64.wrap (x6 + (IntKind.u64.wrap (x9 + 12620524952350641003)))))) (IntKind.u64.wrap (x9 + 12620524952350641003)) (wrap64 (x10 + 1)) x171000 x171001 x171002 x171003))) else (some (Go.bits .xor .u64 x5 x171000, Go.bits .xor .u64 x6 x171001, Go.bits .xor .u64 x7 x171002, Go.bits .xor .u64 x8 x171003))
def impl_HashBlock.f (k : Nat) (a0_0 : Int) (a0_1 : Int) (a0_2 : Int) (a0_3 : Int) (a1_0 : Int) (a1_1 : Int) (a1_2 : Int) (a1_3 : Int) : Option (Int × Int × Int × Int) := impl_HashBlock.l0 k (Go.bits .xor .u64 a0_0 a1_0) (Go.bits .xor .u64 a0_1 a1_1) (Go.bits .xor .u64 a0_2 a1_2) (Go.bits .xor .u64 a0_3 a1_3) 0 0 a0_0 a0_1 a0_2 a0_3
/-! ### impl_digestOf: function 80 -/
def impl_digestOf.f (l0 : List Int) : Option (Int × Int × Int × Int) := (binary_bigEndian_Uint64.f l0).bind fun t176 => (if 8 ≤ (l0.length : Int) then ((binary_bigEndian_Uint64.f (l0.drop 8)).bind fun t178 => (if 16 ≤ (l0.length : Int) then ((binary_bigEndian_Uint64.f (l0.drop 16)).bind fun t180 => (if 24 ≤ (l0.length : Int) then ((binary_bigEndian_Uint64.f (l0.drop 24)).bind fun t182 => (some (t176, t178, t180, t182))) else (none))) else (none))) else (none))
/-! ### impl_HashOf: function 57 -/
mutual
def impl_HashOf.l0 : Nat → ByteArray → List Int → Int → Option (Int × Int × Int × Int)
  | 0, _, _, _ => none
  | k + 1, x0, x3, x4 => if x4 < (x0.size : Int) then (if 0 ≤ x4 then (if (bt x0 x4) = 255 then (impl_HashOf.l0 k x0 x3 (wrap64 (x4 + 1))) else (if x3.length < 140737488355328 then (impl_HashOf.l0 k x0 (x3 ++ [bt x0 x4]) (wrap64 (x4 + 1))) else (none))) else (none)) else (if x3.length < 140737488355328 then (impl_HashOf.l1 k (x3 ++ [128]) (IntKind.u64.wrap ((x3.length : Int)))) else (none))
def impl_HashOf.l1 : Nat → List Int → Int → Option (Int × Int × Int × Int)
  | 0, _, _ => none
  | k + 1, x3, x5 => if ((x3.length : Int) % 32) = 24 then ((binary_bigEndian_AppendUint64.f x3 x5).bind fun t193 => (impl_HashOf.l2 k t193 0 13971524466476933880 3286059910148148165 8210247237615983910 11412903256176698835)) else (if x3.length < 140737488355328 then (impl_HashOf.l1 k (x3 ++ [0]) x5) else (none))
def impl_HashOf.l2 : Nat → List Int → Int → Int → Int → Int → Int → Option (Int × Int × Int × Int)
  | 0, _, _, _, _, _, _ => none
  | k + 1, x3, x7, x197000, x197001, x197002, x197003 => if x7 < (x3.length : Int) then (if 0 ≤ x7 then (if x7 ≤ (wrap64 (x7 + 32)) then (if (wrap64 (x7 + 32)) ≤ (x3.length : Int) then ((impl_digestOf.f ((x3.take ((wrap64 (x7 + 32)) : Int).toNat).drop (x7 : Int).toNat)).bind fun bt201 => ((impl_HashBlock.f k x197000 x197001 x197002 x197003 bt201.1 bt201.2.1 bt201.2.2.1 bt201.2.2.2).bind fun bt205 => (impl_HashOf.l2 k x3 (wrap64 (x7 + 32)) bt205.1 bt205.2.1 bt205.2.2.1 bt205.2.2.2))) else (none)) else (none)) else (none)) else (some (x197000, x197001, x197002, x197003))
end
def impl_HashOf.f (k : Nat) (a0 : ByteArray) : Option (Int × Int × Int × Int) := if (a0.size : Int) > 20000 then (some (0, 0, 0, 0)) else (impl_HashOf.l0 k a0 ([] : List Int) 0)
/-! ### impl_SlotSum: function 18 -/
def slot_be8.f (x : Int) : List Int := [(x / 72057594037927936) % 256, (x / 281474976710656) % 256, (x / 1099511627776) % 256, (x / 4294967296) % 256, (x / 16777216) % 256, (x / 65536) % 256, (x / 256) % 256, x % 256]
def slot_sum.f (ws : List Int) (j : Nat) : List Int := (ws.take j).flatMap slot_be8.f
def impl_SlotSum.f (k : Nat) (a0_0 : Int) (a0_1 : Int) (a0_2 : Int) (a0_3 : Int) (a0_4 : Int) (a0_5 : Int) (a0_6 : Int) : Option (Int) := (impl_HashOf.f k (strOfNums (slot_sum.f [a0_1, a0_2, a0_3, a0_4, a0_5, a0_6] 6))).bind fun bt => some (Go.bits .or .u64 bt.1 1)
/-! ### impl_SlotOk: function 27 -/
def impl_SlotOk.f (k : Nat) (a0_0 : Int) (a0_1 : Int) (a0_2 : Int) (a0_3 : Int) (a0_4 : Int) (a0_5 : Int) (a0_6 : Int) : Option (Bool) := (impl_SlotSum.f k a0_0 a0_1 a0_2 a0_3 a0_4 a0_5 a0_6).bind fun t210 => (if a0_0 = t210 then (if a0_1 ≥ 1 then (if a0_1 ≤ 1000000000 then (if a0_2 ≥ 1 then (some (decide (a0_2 ≤ 256))) else (some false)) else (some false)) else (some false)) else (some false))
/-! ### spec_l1Open: function 64 -/
def spec_l1Open.f (l0 : List Int) : Option (List Int × Int) := if (l0.length : Int) > 2000 then (if 2000 ≤ (l0.length : Int) then (some (l0.take 2000, 0)) else (none)) else (some (l0, 0))
/-! ### spec_l1Rd_pick: function 73 -/
def spec_l1Rd_pick.j0 : Nat → Int → Bool → List Int → Int → Option (Int × Int)
  | 0, _, _, _, _ => none
  | k + 1, x1, x24, x1000, x1001 => if x24 = true then (some (0, x1001)) else (if (wrap64 (x1001 - 1)) < (x1000.length : Int) then (if 0 ≤ (wrap64 (x1001 - 1)) then (if x1 = 0 then (none) else (some (Int.tmod (wrap64 (rd x1000 (wrap64 (x1001 - 1)))) x1, x1001))) else (none)) else (if (x1000.length : Int) = 0 then (none) else (if 0 ≤ (Int.tmod (wrap64 (x1001 - 1)) (x1000.length : Int)) then (if (Int.tmod (wrap64 (x1001 - 1)) (x1000.length : Int)) < (x1000.length : Int) then (if 0 ≤ (Int.tmod (wrap64 ((wrap64 ((wrap64 (x1001 - 1)) * 7)) + 3)) (x1000.length : Int)) then (if (Int.tmod (wrap64 ((wrap64 ((wrap64 (x1001 - 1)) * 7)) + 3)) (x1000.length : Int)) < (x1000.length : Int) then (if x1 = 0 then (none) else (some (Int.tmod (Go.bits .xor .i64 (wrap64 ((wrap64 ((wrap64 ((wrap64 ((wrap64 (rd x1000 (Int.tmod (wrap64 (x1001 - 1)) (x1000.length : Int)))) * 131)) + (wrap64 ((wrap64 (rd x1000 (Int.tmod (wrap64 ((wrap64 ((wrap64 (x1001 - 1)) * 7)) + 3)) (x1000.length : Int)))) * 1117)))) + (wrap64 ((wrap64 (x1001 - 1)) * 29)))) + (wrap64 ((wrap64 (Int.tdiv (wrap64 (x1001 - 1)) (x1000.length : Int))) * 53)))) (wrap64 (Int.tdiv (wrap64 ((wrap64 ((wrap64 ((wrap64 ((wrap64 (rd x1000 (Int.tmod (wrap64 (x1001 - 1)) (x1000.length : Int)))) * 131)) + (wrap64 ((wrap64 (rd x1000 (Int.tmod (wrap64 ((wrap64 ((wrap64 (x1001 - 1)) * 7)) + 3)) (x1000.length : Int)))) * 1117)))) + (wrap64 ((wrap64 (x1001 - 1)) * 29)))) + (wrap64 ((wrap64 (Int.tdiv (wrap64 (x1001 - 1)) (x1000.length : Int))) * 53)))) 64))) x1, x1001))) else (none)) else (none)) else (none)) else (none))))
def spec_l1Rd_pick.f (k : Nat) (s0_0 : List Int) (s0_1 : Int) (a1 : Int) : Option (Int × Int) := if a1 < 1 then (spec_l1Rd_pick.j0 k a1 true s0_0 (wrap64 (s0_1 + 1))) else (spec_l1Rd_pick.j0 k a1 ((s0_0.length : Int) == 0) s0_0 (wrap64 (s0_1 + 1)))
/-! ### spec_l1Rd_word: function 81 -/
def spec_l1Rd_word.l0 : Nat → Int → Int → List Int → Int → Option (Int × Int)
  | 0, _, _, _, _ => none
  | k + 1, x4, x5, x1000, x1001 => if x5 < 8 then ((spec_l1Rd_pick.f k x1000 x1001 256).bind fun bt223 => (spec_l1Rd_word.l0 k (Go.bits .or .u64 (IntKind.u64.wrap (x4 * 256)) (IntKind.u64.wrap (bt223.1))) (wrap64 (x5 + 1)) x1000 bt223.2)) else (some (x4, x1001))
def spec_l1Rd_word.f (k : Nat) (s0_0 : List Int) (s0_1 : Int) : Option (Int × Int) := (spec_l1Rd_pick.f k s0_0 s0_1 6).bind fun bt217 => (if bt217.1 = 0 then ((spec_l1Rd_pick.f k s0_0 bt217.2 3).bind fun bt219 => (some (IntKind.u64.wrap (bt219.1), bt219.2))) else (if bt217.1 = 1 then ((spec_l1Rd_pick.f k s0_0 bt217.2 3).bind fun bt221 => (some (Go.bits .xor .u64 (IntKind.u64.max) (IntKind.u64.wrap (bt221.1)), bt221.2))) else (spec_l1Rd_word.l0 k 0 0 s0_0 bt217.2)))
/-! ### spec_l1Rd_digest: function 74 -/
def spec_l1Rd_digest.f (k : Nat) (s0_0 : List Int) (s0_1 : Int) : Option (Int × Int × Int × Int × Int) := (spec_l1Rd_word.f k s0_0 s0_1).bind fun bt226 => ((spec_l1Rd_word.f k s0_0 bt226.2).bind fun bt228 => ((spec_l1Rd_word.f k s0_0 bt228.2).bind fun bt230 => ((spec_l1Rd_word.f k s0_0 bt230.2).bind fun bt232 => (some (bt226.1, bt228.1, bt230.1, bt232.1, bt232.2)))))
/-! ### spec_l7Slot: function 65 -/
mutual
def spec_l7Slot.j0 : Nat → Int → List Int → Int → Int → Int → Int → Int → Int → Int → Int → Option (Int × Int × Int × Int × Int × Int × Int × Int)
  | 0, _, _, _, _, _, _, _, _, _, _ => none
  | k + 1, x4, x1000, x1001, x245000, x245001, x245002, x245003, x245004, x245005, x245006 => if x4 = 1 then ((spec_l1Rd_pick.f k x1000 x1001 3).bind fun bt249 => (spec_l7Slot.j1 k x4 x1000 bt249.2 x245000 x245001 (IntKind.u64.wrap (wrap64 (255 + bt249.1))) x245003 x245004 x245005 x245006)) else (spec_l7Slot.j1 k x4 x1000 x1001 x245000 x245001 x245002 x245003 x245004 x245005 x245006)
def spec_l7Slot.j1 : Nat → Int → List Int → Int → Int → Int → Int → Int → Int → Int → Int → Option (Int × Int × Int × Int × Int × Int × Int × Int)
  | 0, _, _, _, _, _, _, _, _, _, _ => none
  | k + 1, x4, x1000, x1001, x245000, x245001, x245002, x245003, x245004, x245005, x245006 => if x4 = 2 then ((spec_l1Rd_word.f k x1000 x1001).bind fun bt251 => (spec_l7Slot.j2 k x4 x1000 bt251.2 x245000 bt251.1 x245002 x245003 x245004 x245005 x245006)) else (spec_l7Slot.j2 k x4 x1000 x1001 x245000 x245001 x245002 x245003 x245004 x245005 x245006)
def spec_l7Slot.j2 : Nat → Int → List Int → Int → Int → Int → Int → Int → Int → Int → Int → Option (Int × Int × Int × Int × Int × Int × Int × Int)
  | 0, _, _, _, _, _, _, _, _, _, _ => none
  | k + 1, x4, x1000, x1001, x245000, x245001, x245002, x245003, x245004, x245005, x245006 => if x4 = 3 then ((spec_l1Rd_word.f k x1000 x1001).bind fun bt253 => (spec_l7Slot.j3 k x1000 bt253.2 x245000 x245001 bt253.1 x245003 x245004 x245005 x245006)) else (spec_l7Slot.j3 k x1000 x1001 x245000 x245001 x245002 x245003 x245004 x245005 x245006)
def spec_l7Slot.j3 : Nat → List Int → Int → Int → Int → Int → Int → Int → Int → Int → Option (Int × Int × Int × Int × Int × Int × Int × Int)
  | 0, _, _, _, _, _, _, _, _, _ => none
  | k + 1, x1000, x1001, x245000, x245001, x245002, x245003, x245004, x245005, x245006 => (spec_SlotSum.f k x245000 x245001 x245002 x245003 x245004 x245005 x245006).bind fun t255 => ((spec_l1Rd_pick.f k x1000 x1001 10).bind fun bt256 => (if bt256.1 = 0 then (spec_l7Slot.j4 k bt256.1 x1000 bt256.2 0 x245001 x245002 x245003 x245004 x245005 x245006) else (spec_l7Slot.j4 k bt256.1 x1000 bt256.2 t255 x245001 x245002 x245003 x245004 x245005 x245006)))
def spec_l7Slot.j4 : Nat → Int → List Int → Int → Int → Int → Int → Int → Int → Int → Int → Option (Int × Int × Int × Int × Int × Int × Int × Int)
  | 0, _, _, _, _, _, _, _, _, _, _ => none
  | k + 1, x5, x1000, x1001, x245000, x245001, x245002, x245003, x245004, x245005, x245006 => if x5 = 1 then ((spec_l1Rd_word.f k x1000 x1001).bind fun bt258 => (spec_l7Slot.j5 k x5 x1000 bt258.2 bt258.1 x245001 x245002 x245003 x245004 x245005 x245006)) else (spec_l7Slot.j5 k x5 x1000 x1001 x245000 x245001 x245002 x245003 x245004 x245005 x245006)
def spec_l7Slot.j5 : Nat → Int → List Int → Int → Int → Int → Int → Int → Int → Int → Int → Option (Int × Int × Int × Int × Int × Int × Int × Int)
  | 0, _, _, _, _, _, _, _, _, _, _ => none
  | k + 1, x5, x1000, x1001, x245000, x245001, x245002, x245003, x245004, x245005, x245006 => if x5 = 2 then (if x5 = 3 then (some (0, 0, 0, 0, 0 + 1, 0, 0, x1001)) else (some (0, 0, 0, 0, 0, 0, 0, x1001))) else (if x5 = 3 then (some (x245000, x245001, x245002, x245003, IntKind.u64.wrap (x245004 + 1), x245005, x245006, x1001)) else (some (x245000, x245001, x245002, x245003, x245004, x245005, x245006, x1001)))
end
def spec_l7Slot.f (k : Nat) (s0_0 : List Int) (s0_1 : Int) : Option (Int × Int × Int × Int × Int × Int × Int × Int) := (spec_l1Rd_pick.f k s0_0 s0_1 6).bind fun bt235 => ((spec_l1Rd_pick.f k s0_0 bt235.2 20).bind fun bt237 => ((spec_l1Rd_digest.f k s0_0 bt237.2).bind fun bt239 => ((spec_l1Rd_pick.f k s0_0 bt239.2.2.2.2 14).bind fun bt245 => (if bt245.1 = 0 then ((spec_l1Rd_pick.f k s0_0 bt245.2 3).bind fun bt247 => (spec_l7Slot.j0 k bt245.1 s0_0 bt247.2 0 (IntKind.u64.wrap (wrap64 (999999999 + bt247.1))) (IntKind.u64.wrap (wrap64 (1 + bt237.1))) bt239.1 bt239.2.1 bt239.2.2.1 bt239.2.2.2.1)) else (spec_l7Slot.j0 k bt245.1 s0_0 bt245.2 0 (IntKind.u64.wrap (wrap64 (1 + bt235.1))) (IntKind.u64.wrap (wrap64 (1 + bt237.1))) bt239.1 bt239.2.1 bt239.2.2.1 bt239.2.2.2.1)))))
/-! ### spec_DrawSlotSum: function 33 -/
def spec_DrawSlotSum.f (k : Nat) (l0 : List Int) : Option (Int × Int × Int × Int × Int × Int × Int) := (spec_l1Open.f l0).bind fun bt261 => ((spec_l7Slot.f k bt261.1 bt261.2).bind fun bt264 => (some (bt264.1, bt264.2.1, bt264.2.2.1, bt264.2.2.2.1, bt264.2.2.2.2.1, bt264.2.2.2.2.2.1, bt264.2.2.2.2.2.2.1)))
/-! ### laws_FnSlotSums: function 8 -/
def laws_FnSlotSums.j0 : Nat → Int → Bool → Int → Int → Int → Int → Int → Int → Int → Option (Bool)
  | 0, _, _, _, _, _, _, _, _, _ => none
  | k + 1, x4, x23, x280000, x280001, x280002, x280003, x280004, x280005, x280006 => if x23 = true then (some false) else (if x280001 ≥ 1 then (if x280001 ≤ 1000000000 then (if x280002 ≥ 1 then ((impl_SlotOk.f k x4 x280001 x280002 x280003 x280004 x280005 x280006).bind fun t285 => (if (t285 == (decide (x280002 ≤ 256))) = true then ((impl_SlotOk.f k 0 x280001 x280002 x280003 x280004 x280005 x280006).bind fun t286 => (if t286 = true then (some false) else ((impl_SlotOk.f k (IntKind.u64.wrap (x4 + 2)) x280001 x280002 x280003 x280004 x280005 x280006).bind fun t287 => (some (!t287))))) else (some false))) else ((impl_SlotOk.f k x4 x280001 x280002 x280003 x280004 x280005 x280006).bind fun t290 => (if (t290 == false) = true then ((impl_SlotOk.f k 0 x280001 x280002 x280003 x280004 x280005 x280006).bind fun t291 => (if t291 = true then (some false) else ((impl_SlotOk.f k (IntKind.u64.wrap (x4 + 2)) x280001 x280002 x280003 x280004 x280005 x280006).bind fun t292 => (some (!t292))))) else (some false)))) else ((impl_SlotOk.f k x4 x280001 x280002 x280003 x280004 x280005 x280006).bind fun t295 => (if (t295 == false) = true then ((impl_SlotOk.f k 0 x280001 x280002 x280003 x280004 x280005 x280006).bind fun t296 => (if t296 = true then (some false) else ((impl_SlotOk.f k (IntKind.u64.wrap (x4 + 2)) x280001 x280002 x280003 x280004 x280005 x280006).bind fun t297 => (some (!t297))))) else (some false)))) else ((impl_SlotOk.f k x4 x280001 x280002 x280003 x280004 x280005 x280006).bind fun t300 => (if (t300 == false) = true then ((impl_SlotOk.f k 0 x280001 x280002 x280003 x280004 x280005 x280006).bind fun t301 => (if t301 = true then (some false) else ((impl_SlotOk.f k (IntKind.u64.wrap (x4 + 2)) x280001 x280002 x280003 x280004 x280005 x280006).bind fun t302 => (some (!t302))))) else (some false))))
def laws_FnSlotSums.f (k : Nat) (l0 : List Int) : Option (Bool) := if (l0.length : Int) > 1048576 then (some true) else ((spec_DrawSlotSum.f k l0).bind fun bt272 => ((impl_SlotSum.f k bt272.1 bt272.2.1 bt272.2.2.1 bt272.2.2.2.1 bt272.2.2.2.2.1 bt272.2.2.2.2.2.1 bt272.2.2.2.2.2.2).bind fun t280 => (if t280 = 0 then (laws_FnSlotSums.j0 k t280 true bt272.1 bt272.2.1 bt272.2.2.1 bt272.2.2.2.1 bt272.2.2.2.2.1 bt272.2.2.2.2.2.1 bt272.2.2.2.2.2.2) else ((spec_SlotSum.f k bt272.1 bt272.2.1 bt272.2.2.1 bt272.2.2.2.1 bt272.2.2.2.2.1 bt272.2.2.2.2.2.1 bt272.2.2.2.2.2.2).bind fun t281 => (laws_FnSlotSums.j0 k t280 (t280 != t281) bt272.1 bt272.2.1 bt272.2.2.1 bt272.2.2.2.1 bt272.2.2.2.2.1 bt272.2.2.2.2.2.1 bt272.2.2.2.2.2.2)))))
end Go.Proofs.Ytcgfgodpiobcfaa.V

/- What functions of the given program compute, as Lean functions over numbers and lists; written by a program of this session's. No condition. -/
import Derived.Test.YtcgfgodpiobcfaaProg
import Derived.Below
import Derived.Deep.Draws
import Derived.Deep.AppendLies
import Derived.Maps.AppendAt
import Derived.OwnWalk
import Derived.Laws.BytesArg
import Derived.Laws.MakeOwn
import Derived.Laws.OwnMore
import Derived.Deep.OwnRows
import Derived.Tactics
import Derived.Lib.ConvBytes
import Derived.Laws.Slices
import Derived.WalkKit
import Derived.KernelRfl
import Derived.RowKit3
import Derived.Deep.LoopGhost
import Derived.Deep.QuietTactic
import Derived.BigQuiet
import Derived.WideLaws
import Derived.Deep.DeepCutAuto
import Derived.Deep.CutBlock
import Derived.Deep.RegionHeld3
import Derived.Laws.Rows
import Derived.Lib.AppendStr
import Derived.ArgAppend
import Derived.Laws.IdiomCopy
import Derived.OrdersHeld
import Derived.Laws.BitsLemmas
import Derived.RowKit
import Derived.StillTailTactics
import Derived.Test.YtcgfgodpiobcfaaWWords
import Derived.Test.YtcgfgodpiobcfaaWLast
import Derived.Test.YtcgfgodpiobcfaaWTab
import Derived.Test.YtcgfgodpiobcfaaWFour
import Derived.Test.YtcgfgodpiobcfaaWQPut
import Derived.Test.YtcgfgodpiobcfaaWApart
import Derived.Test.YtcgfgodpiobcfaaWArr
import Derived.Test.YtcgfgodpiobcfaaWZeros
import Derived.Test.YtcgfgodpiobcfaaWFoot
import Derived.Test.YtcgfgodpiobcfaaWKept
import Derived.Test.YtcgfgodpiobcfaaWShare
import Derived.Test.YtcgfgodpiobcfaaWN
import Derived.Test.YtcgfgodpiobcfaaWFootNe
import Derived.Test.YtcgfgodpiobcfaaWAt
import Derived.Test.YtcgfgodpiobcfaaWEqStruct
import Derived.Test.YtcgfgodpiobcfaaWRepsOne
import Derived.Test.YtcgfgodpiobcfaaWInv
import Derived.Test.YtcgfgodpiobcfaaWInvWords
import Derived.Test.YtcgfgodpiobcfaaWGuard
import Derived.Test.YtcgfgodpiobcfaaWNEv
import Derived.Test.YtcgfgodpiobcfaaWMore
import Derived.Test.YtcgfgodpiobcfaaWCopy
namespace Go.Proofs.Ytcgfgodpiobcfaa.M
open Go.RowKit Go.Proofs.YtcgfgodpiobcfaaW.PrintWords Go.Proofs.YtcgfgodpiobcfaaW.PrintLast Go.Proofs.YtcgfgodpiobcfaaW.PrintMore
attribute [local go_sem] max2_int min2_int max_two min_two max_three min_three max_four min_four   -- for this text's walks alone
set_option linter.unusedVariables false
set_option linter.unusedSimpArgs false



def errW : Option Int → Value
  | none => .nilIface
  | some c => .iface 0 (.int .i64 c)
theorem errW_none : errW none = .nilIface := rfl
theorem errW_some (c : Int) : errW (some c) = .iface 0 (.int .i64 c) := rfl

theorem info5 : (Try.prog.info? 5).map (fun i => (i.zero, i.size, i.bytes)) = some (some (.int .u8 0), 1, 1) := by kernel_rfl
theorem info92 : (Try.prog.info? 92).map (fun i => (i.zero, i.size, i.bytes)) = some (some (.agg #[(.int .i64 0), (.int .i64 0), (.int .u64 0)]), 3, 24) := by kernel_rfl
-- the values' own types
/-! #### struct type 92 -/
structure S92 where
  f0 : Int
  f1 : Int
  f2 : Int
def z92 : S92 := ⟨(0 : Int), (0 : Int), (0 : Int)⟩
def k92 : Kd S92 := Kd.iso (Kd.pair (Kd.int .i64) (Kd.pair (Kd.int .i64) (Kd.int .u64))) (fun x : S92 => (x.f0, x.f1, x.f2))
theorem k92_open {w : World} {x : S92} {cs : List Value} (h : k92.K w x cs) : cs = [.int .i64 x.f0, .int .i64 x.f1, .int .u64 x.f2] := by
  obtain ⟨_, _, rfl, rfl, ⟨_, _, rfl, rfl, rfl⟩⟩ := h
  exact rfl
theorem k92_openM {w : World} {base : Nat} {ok : Nat → Prop} {x : S92} {cs : List Value} (h : k92.M w base ok x cs) : cs = [.int .i64 x.f0, .int .i64 x.f1, .int .u64 x.f2] := by
  obtain ⟨_, _, rfl, rfl, ⟨_, _, rfl, rfl, rfl⟩⟩ := h
  exact rfl
theorem k92_mk (w : World) (x : S92)  : k92.K w x [.int .i64 x.f0, .int .i64 x.f1, .int .u64 x.f2] := ⟨[.int .i64 x.f0], [.int .i64 x.f1, .int .u64 x.f2], rfl, rfl, ⟨[.int .i64 x.f1], [.int .u64 x.f2], rfl, rfl, rfl⟩⟩
theorem k92_mkM (w : World) (base : Nat) (ok : Nat → Prop) (x : S92)  : k92.M w base ok x [.int .i64 x.f0, .int .i64 x.f1, .int .u64 x.f2] := ⟨[.int .i64 x.f0], [.int .i64 x.f1, .int .u64 x.f2], rfl, rfl, ⟨[.int .i64 x.f1], [.int .u64 x.f2], rfl, rfl, rfl⟩⟩
def rd_T92 (xs : List S92) (i : Int) : S92 := xs.getD i.toNat z92
theorem at_T92 {w : World} {A : Option Addr} {n : Nat} {xs : List S92} (h : Kd.C k92 w A n xs) (i : Int) (h0 : 0 ≤ i) (h1 : i < n) : ∃ ad , A = some ad ∧ w.cell? (ad.add (i.toNat * 3)) = some (.int .i64 (rd_T92 xs i).f0) ∧ w.cell? ⟨(ad.add (i.toNat * 3)).block, (ad.add (i.toNat * 3)).off + 1, none⟩ = some (.int .i64 (rd_T92 xs i).f1) ∧ w.cell? ⟨(ad.add (i.toNat * 3)).block, (ad.add (i.toNat * 3)).off + 2, none⟩ = some (.int .u64 (rd_T92 xs i).f2) := by
  obtain ⟨ad, c, e, _, hK, hc0⟩ := Kd.C_get h z92 i h0 h1
  have hc : ∀ j u, c[j]? = some u → w.cell? (ad.add (i.toNat * 3 + j)) = some u := hc0
  obtain rfl := k92_open hK
  exact ⟨ad, e, hc 0 _ rfl, by rw [← add_field _ _ 1 (by omega)]; exact hc 1 _ rfl, by rw [← add_field _ _ 2 (by omega)]; exact hc 2 _ rfl⟩

def rd_L4 (xs : List (List S92)) (i : Int) : (List S92) := xs.getD i.toNat ([] : List S92)
theorem at_L4 {w : World} {A : Option Addr} {n : Nat} {xs : List (List S92)} (h : Kd.C (Kd.slice 92 k92) w A n xs) (i : Int) (h0 : 0 ≤ i) (h1 : i < n) : ∃ ad A0 c0, A = some ad ∧ w.cell? (ad.add i.toNat) = some (.slice A0 (rd_L4 xs i).length c0) ∧ (rd_L4 xs i).length ≤ c0 ∧ k92.C w A0 (rd_L4 xs i).length (rd_L4 xs i) := by
  obtain ⟨ad, c, e, _, hK, hc0⟩ := Kd.C_get h ([] : List S92) i h0 h1
  have hc : ∀ j u, c[j]? = some u → w.cell? (ad.add (i.toNat * 1 + j)) = some u := hc0
  obtain ⟨A0, c0, rfl, l0, g0⟩ := hK
  exact ⟨ad, A0, c0, e, by have hq := hc 0 _ rfl; rwa [Nat.mul_one, Nat.add_zero] at hq, l0, g0⟩


/-! ### binary_bigEndian_Uint64: function 86 -/
def binary_bigEndian_Uint64.f  (l1 : List Int) : Option (Int) := if 7 < (l1.length : Int) then (if 6 < (l1.length : Int) then (if 5 < (l1.length : Int) then (if 4 < (l1.length : Int) then (if 3 < (l1.length : Int) then (if 2 < (l1.length : Int) then (if 1 < (l1.length : Int) then (if 0 < (l1.length : Int) then (some (Go.bits .or .u64 (Go.bits .or .u64 (Go.bits .or .u64 (Go.bits .or .u64 (Go.bits .or .u64 (Go.bits .or .u64 (Go.bits .or .u64 (IntKind.u64.wrap (rd l1 7)) (IntKind.u64.wrap ((IntKind.u64.wrap (rd l1 6)) * 256))) (IntKind.u64.wrap ((IntKind.u64.wrap (rd l1 5)) * 65536))) (IntKind.u64.wrap ((IntKind.u64.wrap (rd l1 4)) * 16777216))) (IntKind.u64.wrap ((IntKind.u64.wrap (rd l1 3)) * 4294967296))) (IntKind.u64.wrap ((IntKind.u64.wrap (rd l1 2)) * 1099511627776))) (IntKind.u64.wrap ((IntKind.u64.wrap (rd l1 1)) * 281474976710656))) (IntKind.u64.wrap ((IntKind.u64.wrap (rd l1 0)) * 72057594037927936)))) else (none)) else (none)) else (none)) else (none)) else (none)) else (none)) else (none)) else (none)
/-! ### laws_toDigest: function 42 -/
def laws_toDigest.f (a0_0 : Int) (a0_1 : Int) (a0_2 : Int) (a0_3 : Int) : Option (Int × Int × Int × Int) := some (a0_0, a0_1, a0_2, a0_3)
/-! ### laws_toSlot: function 17 -/
def laws_toSlot.f (a0_0 : Int) (a0_1 : Int) (a0_2 : Int) (a0_3 : Int) (a0_4 : Int) (a0_5 : Int) (a0_6 : Int) : Option (Int × Int × Int × Int × Int × Int × Int) := (laws_toDigest.f a0_3 a0_4 a0_5 a0_6).bind fun bt117 => (some (a0_0, a0_1, a0_2, bt117.1, bt117.2.1, bt117.2.2.1, bt117.2.2.2))
/-! ### laws_toDisk: function 21 -/
def laws_toDisk.f (a0_0 : Int) (a0_1 : Int) (a0_2 : Int) (a0_3 : Int) (a0_4 : Int) (a0_5 : Int) (a0_6 : Int) (a0_7 : Int) (a0_8 : Int) (a0_9 : Int) (a0_10 : Int) (a0_11 : Int) (a0_12 : Int) (a0_13 : Int) : Option (Int × Int × Int × Int × Int × Int × Int × Int × Int × Int × Int × Int × Int × Int) := (laws_toSlot.f a0_0 a0_1 a0_2 a0_3 a0_4 a0_5 a0_6).bind fun bt124 => ((laws_toSlot.f a0_7 a0_8 a0_9 a0_10 a0_11 a0_12 a0_13).bind fun bt131 => (some (bt124.1, bt124.2.1, bt124.2.2.1, bt124.2.2.2.1, bt124.2.2.2.2.1, bt124.2.2.2.2.2.1, bt124.2.2.2.2.2.2, bt131.1, bt131.2.1, bt131.2.2.1, bt131.2.2.2.1, bt131.2.2.2.2.1, bt131.2.2.2.2.2.1, bt131.2.2.2.2.2.2)))
/-! ### laws_eqRaw: function 62 -/
def laws_eqRaw.f (a0_0 : Int) (a0_1 : Int) (a0_2 : Int) (a1_0 : Int) (a1_1 : Int) (a1_2 : Int) : Option (Bool) := if a0_0 = a1_0 then (if a0_1 = a1_1 then (if a0_2 = a1_2 then (some true) else (some false)) else (some false)) else (some false)
/-! ### laws_eqRawS: function 25 -/
def laws_eqRawS.l0 : Nat → List (S92) → List (S92) → Int → Option (Bool)
  | 0, _, _, _ => none
  | k + 1, x0, x1, x5 => if x5 < (x0.length : Int) then (if 0 ≤ x5 then (if x5 < (x1.length : Int) then ((laws_eqRaw.f ((rd_T92 x0 x5).f0) ((rd_T92 x0 x5).f1) ((rd_T92 x0 x5).f2) ((rd_T92 x1 x5).f0) ((rd_T92 x1 x5).f1) ((rd_T92 x1 x5).f2)).bind fun t142 => (if t142 = true then (laws_eqRawS.l0 k x0 x1 (wrap64 (x5 + 1))) else (some false))) else (none)) else (none)) else (some true)
def laws_eqRawS.f (k : Nat) (l0 : List (S92)) (l1 : List (S92)) : Option (Bool) := if (l0.length : Int) = (l1.length : Int) then (laws_eqRawS.l0 k l0 l1 0) else (some false)
/-! ### spec_l1Bytes: function 53 -/
def spec_l1Bytes.l0 : Nat → Int → List Int → Int → Option (ByteArray)
  | 0, _, _, _ => none
  | k + 1, x0, x3, x4 => if x4 ≥ 0 then (if 0 ≤ (IntKind.u64.wrap (wrap64 (8 * x4))) then (if x3.length < 140737488355328 then (spec_l1Bytes.l0 k x0 (x3 ++ [(shr .u64 x0 (IntKind.u64.wrap (wrap64 (8 * x4)))) % 256]) (wrap64 (x4 - 1))) else (none)) else (none)) else (some (strOfNums x3))
def spec_l1Bytes.f (k : Nat) (a0 : Int) : Option (ByteArray) := spec_l1Bytes.l0 k a0 (([] : List Int)) 7
/-! ### spec_l1Bare: function 75 -/
def spec_l1Bare.l0 : Nat → ByteArray → List Int → Int → Option (ByteArray)
  | 0, _, _, _ => none
  | k + 1, x0, x3, x4 => if x4 < (x0.size : Int) then (if 0 ≤ x4 then (if (bt x0 x4) = 255 then (spec_l1Bare.l0 k x0 x3 (wrap64 (x4 + 1))) else (if x3.length < 140737488355328 then (spec_l1Bare.l0 k x0 (x3 ++ [bt x0 x4]) (wrap64 (x4 + 1))) else (none))) else (none)) else (some (strOfNums x3))
def spec_l1Bare.f (k : Nat) (a0 : ByteArray) : Option (ByteArray) := spec_l1Bare.l0 k a0 (([] : List Int)) 0
/-! ### spec_l1Zeros: function 76 -/
def spec_l1Zeros.l0 : Nat → Int → List Int → Int → Option (ByteArray)
  | 0, _, _, _ => none
  | k + 1, x0, x3, x4 => if x4 < x0 then (if x3.length < 140737488355328 then (spec_l1Zeros.l0 k x0 (x3 ++ [0]) (wrap64 (x4 + 1))) else (none)) else (some (strOfNums x3))
def spec_l1Zeros.f (k : Nat) (a0 : Int) : Option (ByteArray) := spec_l1Zeros.l0 k a0 (([] : List Int)) 0
/-! ### spec_l1Turn: function 84 -/
def spec_l1Turn.f (a0 : Int) (a1 : Int) : Option (Int) := if 0 ≤ (IntKind.u64.wrap (a1)) then (if 0 ≤ (IntKind.u64.wrap (wrap64 (64 - a1))) then (some (Go.bits .or .u64 (shl .u64 a0 (IntKind.u64.wrap (a1))) (shr .u64 a0 (IntKind.u64.wrap (wrap64 (64 - a1)))))) else (none)) else (none)
/-! ### spec_HashBlock: function 77 -/
def spec_HashBlock.l0 : Nat → Int → Int → Int → Int → Int → Int → Int → Int → Int → Int → Option (Int × Int × Int × Int)
  | 0, _, _, _, _, _, _, _, _, _, _ => none
  | k + 1, x5, x6, x7, x8, x9, x10, x162000, x162001, x162002, x162003 => if x10 < 10 then ((spec_l1Turn.f (Go.bits .xor .u64 x8 (IntKind.u64.wrap ((IntKind.u64.wrap (x5 + x6)) + (IntKind.u64.wrap (x9 + 12620524952350641003))))) 39).bind fun t164 => ((spec_l1Turn.f (Go.bits .xor .u64 x6 (IntKind.u64.wrap (x7 + t164))) 21).bind fun t165 => (spec_HashBlock.l0 k t165 (IntKind.u64.wrap (x7 + t164)) t164 (IntKind.u64.wrap ((IntKind.u64.wrap (x5 + x6)) + (IntKind.u64.wrap (x9 + 12620524952350641003)))) (IntKind.u64.wrap (x9 + 12620524952350641003)) (wrap64 (x10 + 1)) x162000 x162001 x162002 x162003))) else (some (Go.bits .xor .u64 x5 x162000, Go.bits .xor .u64 x6 x162001, Go.bits .xor .u64 x7 x162002, Go.bits .xor .u64 x8 x162003))
def spec_HashBlock.f (k : Nat) (a0_0 : Int) (a0_1 : Int) (a0_2 : Int) (a0_3 : Int) (a1_0 : Int) (a1_1 : Int) (a1_2 : Int) (a1_3 : Int) : Option (Int × Int × Int × Int) := spec_HashBlock.l0 k (Go.bits .xor .u64 a0_0 a1_0) (Go.bits .xor .u64 a0_1 a1_1) (Go.bits .xor .u64 a0_2 a1_2) (Go.bits .xor .u64 a0_3 a1_3) 0 0 a0_0 a0_1 a0_2 a0_3
/-! ### spec_l1Word: function 78 -/
def spec_l1Word.l0 : Nat → ByteArray → Int → Int → Int → Option (Int)
  | 0, _, _, _, _ => none
  | k + 1, x0, x1, x5, x6 => if x6 < (wrap64 (x1 + 8)) then (if 0 ≤ x6 then (if x6 < (x0.size : Int) then (spec_l1Word.l0 k x0 x1 (Go.bits .or .u64 (IntKind.u64.wrap (x5 * 256)) (IntKind.u64.wrap (bt x0 x6))) (wrap64 (x6 + 1))) else (none)) else (none)) else (some x5)
def spec_l1Word.f (k : Nat) (a0 : ByteArray) (a1 : Int) : Option (Int) := spec_l1Word.l0 k a0 a1 0 a1
/-! ### spec_HashOf: function 52 -/
def spec_HashOf.l0 : Nat → ByteArray → Int → Int → Int → Int → Int → Option (Int × Int × Int × Int)
  | 0, _, _, _, _, _, _ => none
  | k + 1, x4, x6, x174000, x174001, x174002, x174003 => if x6 < (x4.size : Int) then ((spec_l1Word.f k x4 x6).bind fun t174 => ((spec_l1Word.f k x4 (wrap64 (x6 + 8))).bind fun t175 => ((spec_l1Word.f k x4 (wrap64 (x6 + 16))).bind fun t176 => ((spec_l1Word.f k x4 (wrap64 (x6 + 24))).bind fun t177 => ((spec_HashBlock.f k x174000 x174001 x174002 x174003 t174 t175 t176 t177).bind fun bt178 => (spec_HashOf.l0 k x4 (wrap64 (x6 + 32)) bt178.1 bt178.2.1 bt178.2.2.1 bt178.2.2.2)))))) else (some (x174000, x174001, x174002, x174003))
def spec_HashOf.f (k : Nat) (a0 : ByteArray) : Option (Int × Int × Int × Int) := if (a0.size : Int) > 20000 then (some (0, 0, 0, 0)) else ((spec_l1Bare.f k a0).bind fun t167 => ((some (([128] : List Int) : List Int)).bind fun y168 => (if t167.size + (strOfNums y168).size ≤ 9223372036854775807 then ((spec_l1Zeros.f k (Int.tmod (wrap64 (32 - (Int.tmod (wrap64 ((t167.size : Int) + 9)) 32))) 32)).bind fun t171 => (if (t167 ++ (strOfNums y168)).size + t171.size ≤ 9223372036854775807 then ((spec_l1Bytes.f k (IntKind.u64.wrap ((t167.size : Int)))).bind fun t172 => (if ((t167 ++ (strOfNums y168)) ++ t171).size + t172.size ≤ 9223372036854775807 then (spec_HashOf.l0 k (((t167 ++ (strOfNums y168)) ++ t171) ++ t172) 0 13971524466476933880 3286059910148148165 8210247237615983910 11412903256176698835) else (none))) else (none))) else (none))))
/-! ### spec_HashBytes: function 54 -/
def spec_HashBytes.f (k : Nat) (a0_0 : Int) (a0_1 : Int) (a0_2 : Int) (a0_3 : Int) : Option (ByteArray) := (spec_l1Bytes.f k a0_0).bind fun t183 => ((spec_l1Bytes.f k a0_1).bind fun t184 => (if t183.size + t184.size ≤ 9223372036854775807 then ((spec_l1Bytes.f k a0_2).bind fun t185 => (if (t183 ++ t184).size + t185.size ≤ 9223372036854775807 then ((spec_l1Bytes.f k a0_3).bind fun t186 => (if ((t183 ++ t184) ++ t185).size + t186.size ≤ 9223372036854775807 then (some (((t183 ++ t184) ++ t185) ++ t186)) else (none))) else (none))) else (none)))
/-! ### spec_SlotSum: function 16 -/
def spec_SlotSum.f (k : Nat) (a0_0 : Int) (a0_1 : Int) (a0_2 : Int) (a0_3 : Int) (a0_4 : Int) (a0_5 : Int) (a0_6 : Int) : Option (Int) := (spec_l1Bytes.f k a0_1).bind fun t188 => ((spec_l1Bytes.f k a0_2).bind fun t189 => (if t188.size + t189.size ≤ 9223372036854775807 then ((spec_HashBytes.f k a0_3 a0_4 a0_5 a0_6).bind fun t190 => (if (t188 ++ t189).size + t190.size ≤ 9223372036854775807 then ((spec_HashOf.f k ((t188 ++ t189) ++ t190)).bind fun bt191 => (some (Go.bits .or .u64 bt191.1 1))) else (none))) else (none)))
/-! ### spec_SlotOk: function 26 -/
def spec_SlotOk.f (k : Nat) (a0_0 : Int) (a0_1 : Int) (a0_2 : Int) (a0_3 : Int) (a0_4 : Int) (a0_5 : Int) (a0_6 : Int) : Option (Bool) := (spec_SlotSum.f k a0_0 a0_1 a0_2 a0_3 a0_4 a0_5 a0_6).bind fun t196 => (if a0_0 = t196 then (if a0_1 ≥ 1 then (if a0_1 ≤ 1000000000 then (if a0_2 ≥ 1 then (some (decide (a0_2 ≤ 256))) else (some false)) else (some false)) else (some false)) else (some false))
/-! ### spec_l7Clear: function 66 -/
def clear_list.f (at_ : Int) (ws : List Int) : Nat → List S92
  | 0 => []
  | j + 1 => if ws.getD j 0 = 0 then clear_list.f at_ ws j else clear_list.f at_ ws j ++ [⟨at_, (j : Int), 0⟩]
def spec_l7Clear.f (k : Nat) (a0 : Int) (a1_0 : Int) (a1_1 : Int) (a1_2 : Int) (a1_3 : Int) (a1_4 : Int) (a1_5 : Int) (a1_6 : Int) : Option (List (S92)) := (spec_SlotOk.f k a1_0 a1_1 a1_2 a1_3 a1_4 a1_5 a1_6).bind fun t => if t = true then some [] else some (clear_list.f a0 [a1_0, a1_1, a1_2, a1_3, a1_4, a1_5, a1_6] 7)
/-! ### spec_RecordMend: function 37 -/
def spec_RecordMend.l0 : Nat → List (S92) → List (S92) → Int → Option ((List (S92)))
  | 0, _, _, _ => none
  | k + 1, x3, x4, x5 => if x5 < (x4.length : Int) then (if 0 ≤ x5 then (if x3.length < 5864062014805 then (spec_RecordMend.l0 k (x3 ++ [(⟨(rd_T92 x4 x5).f0, (rd_T92 x4 x5).f1, (rd_T92 x4 x5).f2⟩ : S92)]) x4 (wrap64 (x5 + 1))) else (none)) else (none)) else (some x3)
def spec_RecordMend.f (k : Nat) (a0_0 : Int) (a0_1 : Int) (a0_2 : Int) (a0_3 : Int) (a0_4 : Int) (a0_5 : Int) (a0_6 : Int) (a0_7 : Int) (a0_8 : Int) (a0_9 : Int) (a0_10 : Int) (a0_11 : Int) (a0_12 : Int) (a0_13 : Int) : Option ((List (S92))) := (spec_l7Clear.f k 1 a0_0 a0_1 a0_2 a0_3 a0_4 a0_5 a0_6).bind fun t198 => ((spec_l7Clear.f k 2 a0_7 a0_8 a0_9 a0_10 a0_11 a0_12 a0_13).bind fun t201 => (spec_RecordMend.l0 k t198 t201 0))
/-! ### binary_bigEndian_AppendUint64: function 56 -/
def binary_bigEndian_AppendUint64.f  (l1 : List Int) (a2 : Int) : Option (List Int) := (some (([(a2 / 72057594037927936) % 256, (a2 / 281474976710656) % 256, (a2 / 1099511627776) % 256, (a2 / 4294967296) % 256, (a2 / 16777216) % 256, (a2 / 65536) % 256, (a2 / 256) % 256, (a2) % 256] : List Int) : List Int)).bind fun y209 => (if l1.length + y209.length < 140737488355328 then (some (l1 ++ y209)) else (none))
/-! ### bits_RotateLeft64: function 85 -/
def bits_RotateLeft64.f (a0 : Int) (a1 : Int) : Option (Int) := if 0 ≤ (Go.bits .and .u64 (IntKind.u64.wrap (a1)) 63) then (if 0 ≤ (IntKind.u64.wrap (64 - (Go.bits .and .u64 (IntKind.u64.wrap (a1)) 63))) then (some (Go.bits .or .u64 (shl .u64 a0 (Go.bits .and .u64 (IntKind.u64.wrap (a1)) 63)) (shr .u64 a0 (IntKind.u64.wrap (64 - (Go.bits .and .u64 (IntKind.u64.wrap (a1)) 63)))))) else (none)) else (none)
/-! ### impl_HashBlock: function 79 -/
def impl_HashBlock.l0 : Nat → Int → Int → Int → Int → Int → Int → Int → Int → Int → Int → Option (Int × Int × Int × Int)
  | 0, _, _, _, _, _, _, _, _, _, _ => none
  | k + 1, x5, x6, x7, x8, x9, x10, x216000, x216001, x216002, x216003 => if x10 < 10 then ((bits_RotateLeft64.f (Go.bits .xor .u64 x8 (IntKind.u64.wrap (x5 + (IntKind.u64.wrap (x6 + (IntKind.u64.wrap (x9 + 12620524952350641003))))))) 39).bind fun t218 => ((bits_RotateLeft64.f (Go.bits .xor .u64 x6 (IntKind.u64.wrap (x7 + t218))) 21).bind fun t219 => (impl_HashBlock.l0 k t219 (IntKind.u64.wrap (x7 + t218)) t218 (IntKind.u64.wrap (x5 + (IntKind.u64.wrap (x6 + (IntKind.u64.wrap (x9 + 12620524952350641003)))))) (IntKind.u64.wrap (x9 + 12620524952350641003)) (wrap64 (x10 + 1)) x216000 x216001 x216002 x216003))) else (some (Go.bits .xor .u64 x5 x216000, Go.bits .xor .u64 x6 x216001, Go.bits .xor .u64 x7 x216002, Go.bits .xor .u64 x8 x216003))
def impl_HashBlock.f (k : Nat) (a0_0 : Int) (a0_1 : Int) (a0_2 : Int) (a0_3 : Int) (a1_0 : Int) (a1_1 : Int) (a1_2 : Int) (a1_3 : Int) : Option (Int × Int × Int × Int) := impl_HashBlock.l0 k (Go.bits .xor .u64 a0_0 a1_0) (Go.bits .xor .u64 a0_1 a1_1) (Go.bits .xor .u64 a0_2 a1_2) (Go.bits .xor .u64 a0_3 a1_3) 0 0 a0_0 a0_1 a0_2 a0_3
/-! ### impl_digestOf: function 80 -/
def impl_digestOf.f (l0 : List Int) : Option (Int × Int × Int × Int) := (binary_bigEndian_Uint64.f l0).bind fun t221 => (if 8 ≤ (l0.length : Int) then ((binary_bigEndian_Uint64.f (l0.drop 8)).bind fun t223 => (if 16 ≤ (l0.length : Int) then ((binary_bigEndian_Uint64.f (l0.drop 16)).bind fun t225 => (if 24 ≤ (l0.length : Int) then ((binary_bigEndian_Uint64.f (l0.drop 24)).bind fun t227 => (some (t221, t223, t225, t227))) else (none))) else (none))) else (none))
/-! ### impl_HashOf: function 57 -/
mutual
def impl_HashOf.l0 : Nat → ByteArray → List Int → Int → Option (Int × Int × Int × Int)
  | 0, _, _, _ => none
  | k + 1, x0, x3, x4 => if x4 < (x0.size : Int) then (if 0 ≤ x4 then (if (bt x0 x4) = 255 then (impl_HashOf.l0 k x0 x3 (wrap64 (x4 + 1))) else (if x3.length < 140737488355328 then (impl_HashOf.l0 k x0 (x3 ++ [bt x0 x4]) (wrap64 (x4 + 1))) else (none))) else (none)) else (if x3.length < 140737488355328 then (impl_HashOf.l1 k (x3 ++ [128]) (IntKind.u64.wrap ((x3.length : Int)))) else (none))
def impl_HashOf.l1 : Nat → List Int → Int → Option (Int × Int × Int × Int)
  | 0, _, _ => none
  | k + 1, x3, x5 => if ((x3.length : Int) % 32) = 24 then ((binary_bigEndian_AppendUint64.f x3 x5).bind fun t238 => (impl_HashOf.l2 k t238 0 13971524466476933880 3286059910148148165 8210247237615983910 11412903256176698835)) else (if x3.length < 140737488355328 then (impl_HashOf.l1 k (x3 ++ [0]) x5) else (none))
def impl_HashOf.l2 : Nat → List Int → Int → Int → Int → Int → Int → Option (Int × Int × Int × Int)
  | 0, _, _, _, _, _, _ => none
  | k + 1, x3, x7, x242000, x242001, x242002, x242003 => if x7 < (x3.length : Int) then (if 0 ≤ x7 then (if x7 ≤ (wrap64 (x7 + 32)) then (if (wrap64 (x7 + 32)) ≤ (x3.length : Int) then ((impl_digestOf.f ((x3.take ((wrap64 (x7 + 32)) : Int).toNat).drop (x7 : Int).toNat)).bind fun bt246 => ((impl_HashBlock.f k x242000 x242001 x242002 x242003 bt246.1 bt246.2.1 bt246.2.2.1 bt246.2.2.2).bind fun bt250 => (impl_HashOf.l2 k x3 (wrap64 (x7 + 32)) bt250.1 bt250.2.1 bt250.2.2.1 bt250.2.2.2))) else (none)) else (none)) else (none)) else (some (x242000, x242001, x242002, x242003))
end
def impl_HashOf.f (k : Nat) (a0 : ByteArray) : Option (Int × Int × Int × Int) := if (a0.size : Int) > 20000 then (some (0, 0, 0, 0)) else (impl_HashOf.l0 k a0 ([] : List Int) 0)
/-! ### impl_SlotSum: function 18 -/
def slot_be8.f (x : Int) : List Int := [(x / 72057594037927936) % 256, (x / 281474976710656) % 256, (x / 1099511627776) % 256, (x / 4294967296) % 256, (x / 16777216) % 256, (x / 65536) % 256, (x / 256) % 256, x % 256]
def slot_sum.f (ws : List Int) (j : Nat) : List Int := (ws.take j).flatMap slot_be8.f
def impl_SlotSum.f (k : Nat) (a0_0 : Int) (a0_1 : Int) (a0_2 : Int) (a0_3 : Int) (a0_4 : Int) (a0_5 : Int) (a0_6 : Int) : Option (Int) := (impl_HashOf.f k (strOfNums (slot_sum.f [a0_1, a0_2, a0_3, a0_4, a0_5, a0_6] 6))).bind fun bt => some (Go.bits .or .u64 bt.1 1)
/-! ### impl_SlotOk: function 27 -/
def impl_SlotOk.f (k : Nat) (a0_0 : Int) (a0_1 : Int) (a0_2 : Int) (a0_3 : Int) (a0_4 : Int) (a0_5 : Int) (a0_6 : Int) : Option (Bool) := (impl_SlotSum.f k a0_0 a0_1 a0_2 a0_3 a0_4 a0_5 a0_6).bind fun t255 => (if a0_0 = t255 then (if a0_1 ≥ 1 then (if a0_1 ≤ 1000000000 then (if a0_2 ≥ 1 then (some (decide (a0_2 ≤ 256))) else (some false)) else (some false)) else (some false)) else (some false))
/-! ### impl_Raw: function 67 -/
def impl_Raw.f (l0 : List (S92)) : Option (List (S92)) := if l0.length ≤ 5864062014805 then some l0 else none
/-! ### impl_RecordMend: function 38 -/
def mend_pre.f (t1 t2 : Bool) (one two : List Int) : Nat → List S92
  | 0 => []
  | 1 => if t1 = true then [] else clear_list.f 1 one 7
  | _ => (if t1 = true then [] else clear_list.f 1 one 7) ++ (if t2 = true then [] else clear_list.f 2 two 7)
def impl_RecordMend.f (k : Nat) (a0_0 : Int) (a0_1 : Int) (a0_2 : Int) (a0_3 : Int) (a0_4 : Int) (a0_5 : Int) (a0_6 : Int) (a0_7 : Int) (a0_8 : Int) (a0_9 : Int) (a0_10 : Int) (a0_11 : Int) (a0_12 : Int) (a0_13 : Int) : Option (List (S92)) := (impl_SlotOk.f k a0_0 a0_1 a0_2 a0_3 a0_4 a0_5 a0_6).bind fun t1 => (impl_SlotOk.f k a0_7 a0_8 a0_9 a0_10 a0_11 a0_12 a0_13).bind fun t2 => some (mend_pre.f t1 t2 [a0_0, a0_1, a0_2, a0_3, a0_4, a0_5, a0_6] [a0_7, a0_8, a0_9, a0_10, a0_11, a0_12, a0_13] 2)
/-! ### laws_markRawS: function 39 -/
def laws_markRawS.l0 : Nat → List (S92) → Int → Int → Option (Int × (List (S92)))
  | 0, _, _, _ => none
  | k + 1, x0, x1, x5 => if x5 < (x0.length : Int) then (if 0 ≤ x5 then ((some (x0.set (x5 : Int).toNat (⟨x1, (rd_T92 x0 x5).f1, (rd_T92 x0 x5).f2⟩ : S92) : List (S92))).bind fun y256 => ((some (y256.set (x5 : Int).toNat (⟨(rd_T92 y256 x5).f0, wrap64 (x1 + 1), (rd_T92 y256 x5).f2⟩ : S92) : List (S92))).bind fun y257 => (laws_markRawS.l0 k (y257.set (x5 : Int).toNat (⟨(rd_T92 y257 x5).f0, (rd_T92 y257 x5).f1, IntKind.u64.wrap (wrap64 ((wrap64 (x1 + 1)) + 1))⟩ : S92)) (wrap64 ((wrap64 ((wrap64 (x1 + 1)) + 1)) + 1)) (wrap64 (x5 + 1))))) else (none)) else (some (x1, x0))
def laws_markRawS.f (k : Nat) (l0 : List (S92)) (a1 : Int) : Option (Int × (List (S92))) := laws_markRawS.l0 k l0 a1 0
/-! ### laws_heldRawS: function 40 -/
def laws_heldRawS.l0 : Nat → List (S92) → Int → Int → Option (Int)
  | 0, _, _, _ => none
  | k + 1, x0, x1, x5 => if x5 < (x0.length : Int) then (if 0 ≤ x5 then (if ((rd_T92 x0 x5).f0) = x1 then (if ((rd_T92 x0 x5).f1) = (wrap64 (x1 + 1)) then (if ((rd_T92 x0 x5).f2) = (IntKind.u64.wrap (wrap64 ((wrap64 (x1 + 1)) + 1))) then (laws_heldRawS.l0 k x0 (wrap64 ((wrap64 ((wrap64 (x1 + 1)) + 1)) + 1)) (wrap64 (x5 + 1))) else (some (-1))) else (some (-1))) else (some (-1))) else (none)) else (some x1)
def laws_heldRawS.f (k : Nat) (l0 : List (S92)) (a1 : Int) : Option (Int) := laws_heldRawS.l0 k l0 a1 0
/-! ### laws_FnExactRecordMend: function 10 -/
def laws_FnExactRecordMend.f (k : Nat) (a0_0 : Int) (a0_1 : Int) (a0_2 : Int) (a0_3 : Int) (a0_4 : Int) (a0_5 : Int) (a0_6 : Int) (a0_7 : Int) (a0_8 : Int) (a0_9 : Int) (a0_10 : Int) (a0_11 : Int) (a0_12 : Int) (a0_13 : Int) : Option (Bool) := (laws_toDisk.f a0_0 a0_1 a0_2 a0_3 a0_4 a0_5 a0_6 a0_7 a0_8 a0_9 a0_10 a0_11 a0_12 a0_13).bind fun bt263 => ((spec_RecordMend.f k bt263.1 bt263.2.1 bt263.2.2.1 bt263.2.2.2.1 bt263.2.2.2.2.1 bt263.2.2.2.2.2.1 bt263.2.2.2.2.2.2.1 bt263.2.2.2.2.2.2.2.1 bt263.2.2.2.2.2.2.2.2.1 bt263.2.2.2.2.2.2.2.2.2.1 bt263.2.2.2.2.2.2.2.2.2.2.1 bt263.2.2.2.2.2.2.2.2.2.2.2.1 bt263.2.2.2.2.2.2.2.2.2.2.2.2.1 bt263.2.2.2.2.2.2.2.2.2.2.2.2.2).bind fun t277 => ((laws_toDisk.f a0_0 a0_1 a0_2 a0_3 a0_4 a0_5 a0_6 a0_7 a0_8 a0_9 a0_10 a0_11 a0_12 a0_13).bind fun bt280 => ((impl_RecordMend.f k bt280.1 bt280.2.1 bt280.2.2.1 bt280.2.2.2.1 bt280.2.2.2.2.1 bt280.2.2.2.2.2.1 bt280.2.2.2.2.2.2.1 bt280.2.2.2.2.2.2.2.1 bt280.2.2.2.2.2.2.2.2.1 bt280.2.2.2.2.2.2.2.2.2.1 bt280.2.2.2.2.2.2.2.2.2.2.1 bt280.2.2.2.2.2.2.2.2.2.2.2.1 bt280.2.2.2.2.2.2.2.2.2.2.2.2.1 bt280.2.2.2.2.2.2.2.2.2.2.2.2.2).bind fun t294 => ((laws_eqRawS.f k t294 t277).bind fun t297 => (if t297 = true then ((laws_markRawS.f k t294 1).bind fun bt298 => ((laws_heldRawS.f k bt298.2 1).bind fun t300 => (if t300 < 0 then (some false) else (if t300 = bt298.1 then ((laws_toDisk.f a0_0 a0_1 a0_2 a0_3 a0_4 a0_5 a0_6 a0_7 a0_8 a0_9 a0_10 a0_11 a0_12 a0_13).bind fun bt301 => ((impl_RecordMend.f k bt301.1 bt301.2.1 bt301.2.2.1 bt301.2.2.2.1 bt301.2.2.2.2.1 bt301.2.2.2.2.2.1 bt301.2.2.2.2.2.2.1 bt301.2.2.2.2.2.2.2.1 bt301.2.2.2.2.2.2.2.2.1 bt301.2.2.2.2.2.2.2.2.2.1 bt301.2.2.2.2.2.2.2.2.2.2.1 bt301.2.2.2.2.2.2.2.2.2.2.2.1 bt301.2.2.2.2.2.2.2.2.2.2.2.2.1 bt301.2.2.2.2.2.2.2.2.2.2.2.2.2).bind fun t315 => ((laws_eqRawS.f k t315 t277).bind fun t318 => (if t318 = true then ((laws_heldRawS.f k bt298.2 1).bind fun t319 => (if t319 < 0 then (some false) else (if t319 = bt298.1 then (some true) else (some false)))) else (some false))))) else (some false))))) else (some false))))))
end Go.Proofs.Ytcgfgodpiobcfaa.M

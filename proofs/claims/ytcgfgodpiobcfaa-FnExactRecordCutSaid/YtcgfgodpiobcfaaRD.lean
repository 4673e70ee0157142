/- What functions of the given program compute, as Lean functions over numbers and lists; written by a program of this session's. No condition. -/
import Derived.Test.YtcgfgodpiobcfaaProg
import Derived.Below
import Derived.Deep.Draws
import Derived.Deep.AppendLies
import Derived.Maps.AppendAt
import Derived.OwnWalk
import Derived.Laws.BytesArg
import Derived.Laws.MakeOwn
import Derived.Laws.OwnMore
import Derived.Deep.OwnRows
import Derived.Tactics
import Derived.Lib.ConvBytes
import Derived.Laws.Slices
import Derived.WalkKit
import Derived.KernelRfl
import Derived.RowKit3
import Derived.Deep.LoopGhost
import Derived.Deep.QuietTactic
import Derived.BigQuiet
import Derived.WideLaws
import Derived.Deep.DeepCutAuto
import Derived.Deep.CutBlock
import Derived.Deep.RegionHeld3
import Derived.Laws.Rows
import Derived.Lib.AppendStr
import Derived.ArgAppend
import Derived.Laws.IdiomCopy
import Derived.OrdersHeld
import Derived.Laws.BitsLemmas
import Derived.RowKit
import Derived.StillTailTactics
import Derived.Test.YtcgfgodpiobcfaaWWords
import Derived.Test.YtcgfgodpiobcfaaWLast
import Derived.Test.YtcgfgodpiobcfaaWTab
import Derived.Test.YtcgfgodpiobcfaaWFour
import Derived.Test.YtcgfgodpiobcfaaWQPut
import Derived.Test.YtcgfgodpiobcfaaWApart
import Derived.Test.YtcgfgodpiobcfaaWArr
import Derived.Test.YtcgfgodpiobcfaaWZeros
import Derived.Test.YtcgfgodpiobcfaaWFoot
import Derived.Test.YtcgfgodpiobcfaaWKept
import Derived.Test.YtcgfgodpiobcfaaWShare
import Derived.Test.YtcgfgodpiobcfaaWN
import Derived.Test.YtcgfgodpiobcfaaWFootNe
import Derived.Test.YtcgfgodpiobcfaaWAt
import Derived.Test.YtcgfgodpiobcfaaWEqStruct
import Derived.Test.YtcgfgodpiobcfaaWRepsOne
import Derived.Test.YtcgfgodpiobcfaaWInv
import Derived.Test.YtcgfgodpiobcfaaWInvWords
import Derived.Test.YtcgfgodpiobcfaaWGuard
import Derived.Test.YtcgfgodpiobcfaaWNEv
import Derived.Test.YtcgfgodpiobcfaaWMore
import Derived.Test.YtcgfgodpiobcfaaWCopy
namespace Go.Proofs.Ytcgfgodpiobcfaa.R
open Go.RowKit Go.Proofs.YtcgfgodpiobcfaaW.PrintWords Go.Proofs.YtcgfgodpiobcfaaW.PrintLast Go.Proofs.YtcgfgodpiobcfaaW.PrintMore
attribute [local go_sem] max2_int min2_int max_two min_two max_three min_three max_four min_four   -- for this text's walks alone
set_option linter.unusedVariables false
set_option linter.unusedSimpArgs false



def errW : Option Int → Value
  | none => .nilIface
  | some c => .iface 0 (.int .i64 c)
theorem errW_none : errW none = .nilIface := rfl
theorem errW_some (c : Int) : errW (some c) = .iface 0 (.int .i64 c) := rfl

theorem info92 : (Try.prog.info? 92).map (fun i => (i.zero, i.size, i.bytes)) = some (some (.agg #[(.int .i64 0), (.int .i64 0), (.int .u64 0)]), 3, 24) := by kernel_rfl
-- the values' own types
/-! #### struct type 95 -/
structure S95 where
  f0 : Int
  f1 : Int
  f2 : Int
def z95 : S95 := ⟨(0 : Int), (0 : Int), (0 : Int)⟩
def k95 : Kd S95 := Kd.iso (Kd.pair (Kd.int .i64) (Kd.pair (Kd.int .i64) (Kd.int .u64))) (fun x : S95 => (x.f0, x.f1, x.f2))
theorem k95_open {w : World} {x : S95} {cs : List Value} (h : k95.K w x cs) : cs = [.int .i64 x.f0, .int .i64 x.f1, .int .u64 x.f2] := by
  obtain ⟨_, _, rfl, rfl, ⟨_, _, rfl, rfl, rfl⟩⟩ := h
  exact rfl
theorem k95_openM {w : World} {base : Nat} {ok : Nat → Prop} {x : S95} {cs : List Value} (h : k95.M w base ok x cs) : cs = [.int .i64 x.f0, .int .i64 x.f1, .int .u64 x.f2] := by
  obtain ⟨_, _, rfl, rfl, ⟨_, _, rfl, rfl, rfl⟩⟩ := h
  exact rfl
theorem k95_mk (w : World) (x : S95)  : k95.K w x [.int .i64 x.f0, .int .i64 x.f1, .int .u64 x.f2] := ⟨[.int .i64 x.f0], [.int .i64 x.f1, .int .u64 x.f2], rfl, rfl, ⟨[.int .i64 x.f1], [.int .u64 x.f2], rfl, rfl, rfl⟩⟩
theorem k95_mkM (w : World) (base : Nat) (ok : Nat → Prop) (x : S95)  : k95.M w base ok x [.int .i64 x.f0, .int .i64 x.f1, .int .u64 x.f2] := ⟨[.int .i64 x.f0], [.int .i64 x.f1, .int .u64 x.f2], rfl, rfl, ⟨[.int .i64 x.f1], [.int .u64 x.f2], rfl, rfl, rfl⟩⟩
def rd_T95 (xs : List S95) (i : Int) : S95 := xs.getD i.toNat z95
theorem at_T95 {w : World} {A : Option Addr} {n : Nat} {xs : List S95} (h : Kd.C k95 w A n xs) (i : Int) (h0 : 0 ≤ i) (h1 : i < n) : ∃ ad , A = some ad ∧ w.cell? (ad.add (i.toNat * 3)) = some (.int .i64 (rd_T95 xs i).f0) ∧ w.cell? ⟨(ad.add (i.toNat * 3)).block, (ad.add (i.toNat * 3)).off + 1, none⟩ = some (.int .i64 (rd_T95 xs i).f1) ∧ w.cell? ⟨(ad.add (i.toNat * 3)).block, (ad.add (i.toNat * 3)).off + 2, none⟩ = some (.int .u64 (rd_T95 xs i).f2) := by
  obtain ⟨ad, c, e, _, hK, hc0⟩ := Kd.C_get h z95 i h0 h1
  have hc : ∀ j u, c[j]? = some u → w.cell? (ad.add (i.toNat * 3 + j)) = some u := hc0
  obtain rfl := k95_open hK
  exact ⟨ad, e, hc 0 _ rfl, by rw [← add_field _ _ 1 (by omega)]; exact hc 1 _ rfl, by rw [← add_field _ _ 2 (by omega)]; exact hc 2 _ rfl⟩

/-! #### struct type 92 -/
structure S92 where
  f0 : Int
  f1 : Int
  f2 : Int
def z92 : S92 := ⟨(0 : Int), (0 : Int), (0 : Int)⟩
def k92 : Kd S92 := Kd.iso (Kd.pair (Kd.int .i64) (Kd.pair (Kd.int .i64) (Kd.int .u64))) (fun x : S92 => (x.f0, x.f1, x.f2))
theorem k92_open {w : World} {x : S92} {cs : List Value} (h : k92.K w x cs) : cs = [.int .i64 x.f0, .int .i64 x.f1, .int .u64 x.f2] := by
  obtain ⟨_, _, rfl, rfl, ⟨_, _, rfl, rfl, rfl⟩⟩ := h
  exact rfl
theorem k92_openM {w : World} {base : Nat} {ok : Nat → Prop} {x : S92} {cs : List Value} (h : k92.M w base ok x cs) : cs = [.int .i64 x.f0, .int .i64 x.f1, .int .u64 x.f2] := by
  obtain ⟨_, _, rfl, rfl, ⟨_, _, rfl, rfl, rfl⟩⟩ := h
  exact rfl
theorem k92_mk (w : World) (x : S92)  : k92.K w x [.int .i64 x.f0, .int .i64 x.f1, .int .u64 x.f2] := ⟨[.int .i64 x.f0], [.int .i64 x.f1, .int .u64 x.f2], rfl, rfl, ⟨[.int .i64 x.f1], [.int .u64 x.f2], rfl, rfl, rfl⟩⟩
theorem k92_mkM (w : World) (base : Nat) (ok : Nat → Prop) (x : S92)  : k92.M w base ok x [.int .i64 x.f0, .int .i64 x.f1, .int .u64 x.f2] := ⟨[.int .i64 x.f0], [.int .i64 x.f1, .int .u64 x.f2], rfl, rfl, ⟨[.int .i64 x.f1], [.int .u64 x.f2], rfl, rfl, rfl⟩⟩
def rd_T92 (xs : List S92) (i : Int) : S92 := xs.getD i.toNat z92
theorem at_T92 {w : World} {A : Option Addr} {n : Nat} {xs : List S92} (h : Kd.C k92 w A n xs) (i : Int) (h0 : 0 ≤ i) (h1 : i < n) : ∃ ad , A = some ad ∧ w.cell? (ad.add (i.toNat * 3)) = some (.int .i64 (rd_T92 xs i).f0) ∧ w.cell? ⟨(ad.add (i.toNat * 3)).block, (ad.add (i.toNat * 3)).off + 1, none⟩ = some (.int .i64 (rd_T92 xs i).f1) ∧ w.cell? ⟨(ad.add (i.toNat * 3)).block, (ad.add (i.toNat * 3)).off + 2, none⟩ = some (.int .u64 (rd_T92 xs i).f2) := by
  obtain ⟨ad, c, e, _, hK, hc0⟩ := Kd.C_get h z92 i h0 h1
  have hc : ∀ j u, c[j]? = some u → w.cell? (ad.add (i.toNat * 3 + j)) = some u := hc0
  obtain rfl := k92_open hK
  exact ⟨ad, e, hc 0 _ rfl, by rw [← add_field _ _ 1 (by omega)]; exact hc 1 _ rfl, by rw [← add_field _ _ 2 (by omega)]; exact hc 2 _ rfl⟩

def rd_L5 (xs : List (List S92)) (i : Int) : (List S92) := xs.getD i.toNat ([] : List S92)
theorem at_L5 {w : World} {A : Option Addr} {n : Nat} {xs : List (List S92)} (h : Kd.C (Kd.slice 92 k92) w A n xs) (i : Int) (h0 : 0 ≤ i) (h1 : i < n) : ∃ ad A0 c0, A = some ad ∧ w.cell? (ad.add i.toNat) = some (.slice A0 (rd_L5 xs i).length c0) ∧ (rd_L5 xs i).length ≤ c0 ∧ k92.C w A0 (rd_L5 xs i).length (rd_L5 xs i) := by
  obtain ⟨ad, c, e, _, hK, hc0⟩ := Kd.C_get h ([] : List S92) i h0 h1
  have hc : ∀ j u, c[j]? = some u → w.cell? (ad.add (i.toNat * 1 + j)) = some u := hc0
  obtain ⟨A0, c0, rfl, l0, g0⟩ := hK
  exact ⟨ad, A0, c0, e, by have hq := hc 0 _ rfl; rwa [Nat.mul_one, Nat.add_zero] at hq, l0, g0⟩


/-! ### binary_bigEndian_Uint64: function 86 -/
def binary_bigEndian_Uint64.f  (l1 : List Int) : Option (Int) := if 7 < (l1.length : Int) then (if 6 < (l1.length : Int) then (if 5 < (l1.length : Int) then (if 4 < (l1.length : Int) then (if 3 < (l1.length : Int) then (if 2 < (l1.length : Int) then (if 1 < (l1.length : Int) then (if 0 < (l1.length : Int) then (some (Go.bits .or .u64 (Go.bits .or .u64 (Go.bits .or .u64 (Go.bits .or .u64 (Go.bits .or .u64 (Go.bits .or .u64 (Go.bits .or .u64 (IntKind.u64.wrap (rd l1 7)) (IntKind.u64.wrap ((IntKind.u64.wrap (rd l1 6)) * 256))) (IntKind.u64.wrap ((IntKind.u64.wrap (rd l1 5)) * 65536))) (IntKind.u64.wrap ((IntKind.u64.wrap (rd l1 4)) * 16777216))) (IntKind.u64.wrap ((IntKind.u64.wrap (rd l1 3)) * 4294967296))) (IntKind.u64.wrap ((IntKind.u64.wrap (rd l1 2)) * 1099511627776))) (IntKind.u64.wrap ((IntKind.u64.wrap (rd l1 1)) * 281474976710656))) (IntKind.u64.wrap ((IntKind.u64.wrap (rd l1 0)) * 72057594037927936)))) else (none)) else (none)) else (none)) else (none)) else (none)) else (none)) else (none)) else (none)
/-! ### laws_szRawS: function 19 -/
def laws_szRawS.f (l0 : List (S95)) (a1 : Int) : Option (Int) := if (wrap64 (a1 - (l0.length : Int))) < 0 then (some (-1)) else (some (wrap64 (a1 - (l0.length : Int))))
/-! ### spec_l7Put: function 58 -/
mutual
def spec_l7Put.j0 : Nat → Int → Int → Int → Int → Int → Int → Int → Int → Int → Option (Int × Int × Int × Int × Int × Int × Int)
  | 0, _, _, _, _, _, _, _, _, _ => none
  | k + 1, x1, x2, x112000, x112001, x112002, x112003, x112004, x112005, x112006 => if x1 = 1 then (spec_l7Put.j1 k x1 x2 x112000 x2 x112002 x112003 x112004 x112005 x112006) else (spec_l7Put.j1 k x1 x2 x112000 x112001 x112002 x112003 x112004 x112005 x112006)
def spec_l7Put.j1 : Nat → Int → Int → Int → Int → Int → Int → Int → Int → Int → Option (Int × Int × Int × Int × Int × Int × Int)
  | 0, _, _, _, _, _, _, _, _, _ => none
  | k + 1, x1, x2, x112000, x112001, x112002, x112003, x112004, x112005, x112006 => if x1 = 2 then (spec_l7Put.j2 k x1 x2 x112000 x112001 x2 x112003 x112004 x112005 x112006) else (spec_l7Put.j2 k x1 x2 x112000 x112001 x112002 x112003 x112004 x112005 x112006)
def spec_l7Put.j2 : Nat → Int → Int → Int → Int → Int → Int → Int → Int → Int → Option (Int × Int × Int × Int × Int × Int × Int)
  | 0, _, _, _, _, _, _, _, _, _ => none
  | k + 1, x1, x2, x112000, x112001, x112002, x112003, x112004, x112005, x112006 => if x1 = 3 then (spec_l7Put.j3 k x1 x2 x112000 x112001 x112002 x2 x112004 x112005 x112006) else (spec_l7Put.j3 k x1 x2 x112000 x112001 x112002 x112003 x112004 x112005 x112006)
def spec_l7Put.j3 : Nat → Int → Int → Int → Int → Int → Int → Int → Int → Int → Option (Int × Int × Int × Int × Int × Int × Int)
  | 0, _, _, _, _, _, _, _, _, _ => none
  | k + 1, x1, x2, x112000, x112001, x112002, x112003, x112004, x112005, x112006 => if x1 = 4 then (spec_l7Put.j4 k x1 x2 x112000 x112001 x112002 x112003 x2 x112005 x112006) else (spec_l7Put.j4 k x1 x2 x112000 x112001 x112002 x112003 x112004 x112005 x112006)
def spec_l7Put.j4 : Nat → Int → Int → Int → Int → Int → Int → Int → Int → Int → Option (Int × Int × Int × Int × Int × Int × Int)
  | 0, _, _, _, _, _, _, _, _, _ => none
  | k + 1, x1, x2, x112000, x112001, x112002, x112003, x112004, x112005, x112006 => if x1 = 5 then (if x1 = 6 then (some (x112000, x112001, x112002, x112003, x112004, x2, x2)) else (some (x112000, x112001, x112002, x112003, x112004, x2, x112006))) else (if x1 = 6 then (some (x112000, x112001, x112002, x112003, x112004, x112005, x2)) else (some (x112000, x112001, x112002, x112003, x112004, x112005, x112006)))
end
def spec_l7Put.f (k : Nat) (a0_0 : Int) (a0_1 : Int) (a0_2 : Int) (a0_3 : Int) (a0_4 : Int) (a0_5 : Int) (a0_6 : Int) (a1 : Int) (a2 : Int) : Option (Int × Int × Int × Int × Int × Int × Int) := if a1 = 0 then (spec_l7Put.j0 k a1 a2 a2 a0_1 a0_2 a0_3 a0_4 a0_5 a0_6) else (spec_l7Put.j0 k a1 a2 a0_0 a0_1 a0_2 a0_3 a0_4 a0_5 a0_6)
/-! ### spec_DiskWrite: function 20 -/
def spec_DiskWrite.l0 : Nat → List (S92) → Int → Int → Int → Int → Int → Int → Int → Int → Int → Int → Int → Int → Int → Int → Int → Option (Int × Int × Int × Int × Int × Int × Int × Int × Int × Int × Int × Int × Int × Int)
  | 0, _, _, _, _, _, _, _, _, _, _, _, _, _, _, _, _ => none
  | k + 1, x1, x5, x114000, x114001, x114002, x114003, x114004, x114005, x114006, x114007, x114008, x114009, x114010, x114011, x114012, x114013 => if x5 < (x1.length : Int) then (if 0 ≤ x5 then (if ((rd_T92 x1 x5).f0) = 1 then ((spec_l7Put.f k x114000 x114001 x114002 x114003 x114004 x114005 x114006 ((rd_T92 x1 x5).f1) ((rd_T92 x1 x5).f2)).bind fun bt117 => (if ((rd_T92 x1 x5).f0) = 2 then ((spec_l7Put.f k x114007 x114008 x114009 x114010 x114011 x114012 x114013 ((rd_T92 x1 x5).f1) ((rd_T92 x1 x5).f2)).bind fun bt124 => (spec_DiskWrite.l0 k x1 (wrap64 (x5 + 1)) bt117.1 bt117.2.1 bt117.2.2.1 bt117.2.2.2.1 bt117.2.2.2.2.1 bt117.2.2.2.2.2.1 bt117.2.2.2.2.2.2 bt124.1 bt124.2.1 bt124.2.2.1 bt124.2.2.2.1 bt124.2.2.2.2.1 bt124.2.2.2.2.2.1 bt124.2.2.2.2.2.2)) else (spec_DiskWrite.l0 k x1 (wrap64 (x5 + 1)) bt117.1 bt117.2.1 bt117.2.2.1 bt117.2.2.2.1 bt117.2.2.2.2.1 bt117.2.2.2.2.2.1 bt117.2.2.2.2.2.2 x114007 x114008 x114009 x114010 x114011 x114012 x114013))) else (if ((rd_T92 x1 x5).f0) = 2 then ((spec_l7Put.f k x114007 x114008 x114009 x114010 x114011 x114012 x114013 ((rd_T92 x1 x5).f1) ((rd_T92 x1 x5).f2)).bind fun bt131 => (spec_DiskWrite.l0 k x1 (wrap64 (x5 + 1)) x114000 x114001 x114002 x114003 x114004 x114005 x114006 bt131.1 bt131.2.1 bt131.2.2.1 bt131.2.2.2.1 bt131.2.2.2.2.1 bt131.2.2.2.2.2.1 bt131.2.2.2.2.2.2)) else (spec_DiskWrite.l0 k x1 (wrap64 (x5 + 1)) x114000 x114001 x114002 x114003 x114004 x114005 x114006 x114007 x114008 x114009 x114010 x114011 x114012 x114013))) else (none)) else (some (x114000, x114001, x114002, x114003, x114004, x114005, x114006, x114007, x114008, x114009, x114010, x114011, x114012, x114013))
def spec_DiskWrite.f (k : Nat) (a0_0 : Int) (a0_1 : Int) (a0_2 : Int) (a0_3 : Int) (a0_4 : Int) (a0_5 : Int) (a0_6 : Int) (a0_7 : Int) (a0_8 : Int) (a0_9 : Int) (a0_10 : Int) (a0_11 : Int) (a0_12 : Int) (a0_13 : Int) (l1 : List (S92)) : Option (Int × Int × Int × Int × Int × Int × Int × Int × Int × Int × Int × Int × Int × Int) := spec_DiskWrite.l0 k l1 0 a0_0 a0_1 a0_2 a0_3 a0_4 a0_5 a0_6 a0_7 a0_8 a0_9 a0_10 a0_11 a0_12 a0_13
/-! ### laws_toDigest: function 42 -/
def laws_toDigest.f (a0_0 : Int) (a0_1 : Int) (a0_2 : Int) (a0_3 : Int) : Option (Int × Int × Int × Int) := some (a0_0, a0_1, a0_2, a0_3)
/-! ### laws_toSlot: function 17 -/
def laws_toSlot.f (a0_0 : Int) (a0_1 : Int) (a0_2 : Int) (a0_3 : Int) (a0_4 : Int) (a0_5 : Int) (a0_6 : Int) : Option (Int × Int × Int × Int × Int × Int × Int) := (laws_toDigest.f a0_3 a0_4 a0_5 a0_6).bind fun bt144 => (some (a0_0, a0_1, a0_2, bt144.1, bt144.2.1, bt144.2.2.1, bt144.2.2.2))
/-! ### laws_toDisk: function 21 -/
def laws_toDisk.f (a0_0 : Int) (a0_1 : Int) (a0_2 : Int) (a0_3 : Int) (a0_4 : Int) (a0_5 : Int) (a0_6 : Int) (a0_7 : Int) (a0_8 : Int) (a0_9 : Int) (a0_10 : Int) (a0_11 : Int) (a0_12 : Int) (a0_13 : Int) : Option (Int × Int × Int × Int × Int × Int × Int × Int × Int × Int × Int × Int × Int × Int) := (laws_toSlot.f a0_0 a0_1 a0_2 a0_3 a0_4 a0_5 a0_6).bind fun bt151 => ((laws_toSlot.f a0_7 a0_8 a0_9 a0_10 a0_11 a0_12 a0_13).bind fun bt158 => (some (bt151.1, bt151.2.1, bt151.2.2.1, bt151.2.2.2.1, bt151.2.2.2.2.1, bt151.2.2.2.2.2.1, bt151.2.2.2.2.2.2, bt158.1, bt158.2.1, bt158.2.2.1, bt158.2.2.2.1, bt158.2.2.2.2.1, bt158.2.2.2.2.2.1, bt158.2.2.2.2.2.2)))
/-! ### laws_toRaw: function 59 -/
def laws_toRaw.f (a0_0 : Int) (a0_1 : Int) (a0_2 : Int) : Option (Int × Int × Int) := some (a0_0, a0_1, a0_2)
/-! ### laws_toRawS: function 22 -/
def laws_toRawS.l0 : Nat → List (S95) → List (S92) → Int → Option ((List (S92)))
  | 0, _, _, _ => none
  | k + 1, x0, x3, x4 => if x4 < (x0.length : Int) then (if 0 ≤ x4 then ((laws_toRaw.f ((rd_T95 x0 x4).f0) ((rd_T95 x0 x4).f1) ((rd_T95 x0 x4).f2)).bind fun bt172 => (if x4 < (x3.length : Int) then (laws_toRawS.l0 k x0 (x3.set (x4 : Int).toNat (⟨bt172.1, bt172.2.1, bt172.2.2⟩ : S92)) (wrap64 (x4 + 1))) else (none))) else (none)) else (some x3)
def laws_toRawS.f (k : Nat) (l0 : List (S95)) : Option ((List (S92))) := if 0 ≤ (l0.length : Int) then (if ((l0.length : Int) : Int).toNat ≤ 11728124029610 then (laws_toRawS.l0 k l0 (List.replicate ((l0.length : Int) : Int).toNat z92) 0) else (none)) else (none)
/-! ### impl_in: function 60 -/
def impl_in.f (a0 : Int) (a1 : Int) (a2 : Int) : Option (Bool) := if a0 ≥ a1 then (some (decide (a0 ≤ a2))) else (some false)
/-! ### impl_DiskWrite: function 23 -/
def disk_step.f (d : List Int) (x : S92) : List Int := if 0 ≤ x.f1 ∧ x.f1 ≤ 6 then (if x.f0 = 1 then d.set x.f1.toNat x.f2 else if x.f0 = 2 then d.set (7 + x.f1.toNat) x.f2 else d) else d
def disk_out.f (d : List Int) : Int × Int × Int × Int × Int × Int × Int × Int × Int × Int × Int × Int × Int × Int := (d.getD 0 0, d.getD 1 0, d.getD 2 0, d.getD 3 0, d.getD 4 0, d.getD 5 0, d.getD 6 0, d.getD 7 0, d.getD 8 0, d.getD 9 0, d.getD 10 0, d.getD 11 0, d.getD 12 0, d.getD 13 0)
def disk_cells.f (d : List Int) : Array Value := (d.map (Value.int .u64)).toArray
def impl_DiskWrite.f (a0_0 : Int) (a0_1 : Int) (a0_2 : Int) (a0_3 : Int) (a0_4 : Int) (a0_5 : Int) (a0_6 : Int) (a0_7 : Int) (a0_8 : Int) (a0_9 : Int) (a0_10 : Int) (a0_11 : Int) (a0_12 : Int) (a0_13 : Int) (l1 : List (S92)) : Option (Int × Int × Int × Int × Int × Int × Int × Int × Int × Int × Int × Int × Int × Int) := if l1.length ≤ 4000000000000000000 then some (disk_out.f (l1.foldl disk_step.f [a0_0, a0_1, a0_2, a0_3, a0_4, a0_5, a0_6, a0_7, a0_8, a0_9, a0_10, a0_11, a0_12, a0_13])) else none
/-! ### laws_eqDigest: function 63 -/
def laws_eqDigest.f (a0_0 : Int) (a0_1 : Int) (a0_2 : Int) (a0_3 : Int) (a1_0 : Int) (a1_1 : Int) (a1_2 : Int) (a1_3 : Int) : Option (Bool) := if a0_0 = a1_0 then (if a0_1 = a1_1 then (if a0_2 = a1_2 then (if a0_3 = a1_3 then (some true) else (some false)) else (some false)) else (some false)) else (some false)
/-! ### laws_eqSlot: function 61 -/
def laws_eqSlot.f (a0_0 : Int) (a0_1 : Int) (a0_2 : Int) (a0_3 : Int) (a0_4 : Int) (a0_5 : Int) (a0_6 : Int) (a1_0 : Int) (a1_1 : Int) (a1_2 : Int) (a1_3 : Int) (a1_4 : Int) (a1_5 : Int) (a1_6 : Int) : Option (Bool) := if a0_0 = a1_0 then (if a0_1 = a1_1 then (if a0_2 = a1_2 then ((laws_eqDigest.f a0_3 a0_4 a0_5 a0_6 a1_3 a1_4 a1_5 a1_6).bind fun t180 => (if t180 = true then (some true) else (some false))) else (some false)) else (some false)) else (some false)
/-! ### laws_eqDisk: function 24 -/
def laws_eqDisk.f (a0_0 : Int) (a0_1 : Int) (a0_2 : Int) (a0_3 : Int) (a0_4 : Int) (a0_5 : Int) (a0_6 : Int) (a0_7 : Int) (a0_8 : Int) (a0_9 : Int) (a0_10 : Int) (a0_11 : Int) (a0_12 : Int) (a0_13 : Int) (a1_0 : Int) (a1_1 : Int) (a1_2 : Int) (a1_3 : Int) (a1_4 : Int) (a1_5 : Int) (a1_6 : Int) (a1_7 : Int) (a1_8 : Int) (a1_9 : Int) (a1_10 : Int) (a1_11 : Int) (a1_12 : Int) (a1_13 : Int) : Option (Bool) := (laws_eqSlot.f a0_0 a0_1 a0_2 a0_3 a0_4 a0_5 a0_6 a1_0 a1_1 a1_2 a1_3 a1_4 a1_5 a1_6).bind fun t183 => (if t183 = true then ((laws_eqSlot.f a0_7 a0_8 a0_9 a0_10 a0_11 a0_12 a0_13 a1_7 a1_8 a1_9 a1_10 a1_11 a1_12 a1_13).bind fun t184 => (if t184 = true then (some true) else (some false))) else (some false))
/-! ### laws_eqRaw: function 62 -/
def laws_eqRaw.f (a0_0 : Int) (a0_1 : Int) (a0_2 : Int) (a1_0 : Int) (a1_1 : Int) (a1_2 : Int) : Option (Bool) := if a0_0 = a1_0 then (if a0_1 = a1_1 then (if a0_2 = a1_2 then (some true) else (some false)) else (some false)) else (some false)
/-! ### laws_eqRawS: function 25 -/
def laws_eqRawS.l0 : Nat → List (S92) → List (S92) → Int → Option (Bool)
  | 0, _, _, _ => none
  | k + 1, x0, x1, x5 => if x5 < (x0.length : Int) then (if 0 ≤ x5 then (if x5 < (x1.length : Int) then ((laws_eqRaw.f ((rd_T92 x0 x5).f0) ((rd_T92 x0 x5).f1) ((rd_T92 x0 x5).f2) ((rd_T92 x1 x5).f0) ((rd_T92 x1 x5).f1) ((rd_T92 x1 x5).f2)).bind fun t189 => (if t189 = true then (laws_eqRawS.l0 k x0 x1 (wrap64 (x5 + 1))) else (some false))) else (none)) else (none)) else (some true)
def laws_eqRawS.f (k : Nat) (l0 : List (S92)) (l1 : List (S92)) : Option (Bool) := if (l0.length : Int) = (l1.length : Int) then (laws_eqRawS.l0 k l0 l1 0) else (some false)
/-! ### laws_FnExactDiskWrite: function 4 -/
def laws_FnExactDiskWrite.f (k : Nat) (a0_0 : Int) (a0_1 : Int) (a0_2 : Int) (a0_3 : Int) (a0_4 : Int) (a0_5 : Int) (a0_6 : Int) (a0_7 : Int) (a0_8 : Int) (a0_9 : Int) (a0_10 : Int) (a0_11 : Int) (a0_12 : Int) (a0_13 : Int) (l1 : List (S95)) : Option (Bool) := (laws_szRawS.f l1 1048576).bind fun t191 => (if t191 < 0 then (some true) else ((laws_toDisk.f a0_0 a0_1 a0_2 a0_3 a0_4 a0_5 a0_6 a0_7 a0_8 a0_9 a0_10 a0_11 a0_12 a0_13).bind fun bt192 => ((laws_toRawS.f k l1).bind fun t206 => ((spec_DiskWrite.f k bt192.1 bt192.2.1 bt192.2.2.1 bt192.2.2.2.1 bt192.2.2.2.2.1 bt192.2.2.2.2.2.1 bt192.2.2.2.2.2.2.1 bt192.2.2.2.2.2.2.2.1 bt192.2.2.2.2.2.2.2.2.1 bt192.2.2.2.2.2.2.2.2.2.1 bt192.2.2.2.2.2.2.2.2.2.2.1 bt192.2.2.2.2.2.2.2.2.2.2.2.1 bt192.2.2.2.2.2.2.2.2.2.2.2.2.1 bt192.2.2.2.2.2.2.2.2.2.2.2.2.2 t206).bind fun bt209 => ((laws_toRawS.f k l1).bind fun t224 => ((laws_toDisk.f a0_0 a0_1 a0_2 a0_3 a0_4 a0_5 a0_6 a0_7 a0_8 a0_9 a0_10 a0_11 a0_12 a0_13).bind fun bt227 => ((impl_DiskWrite.f bt227.1 bt227.2.1 bt227.2.2.1 bt227.2.2.2.1 bt227.2.2.2.2.1 bt227.2.2.2.2.2.1 bt227.2.2.2.2.2.2.1 bt227.2.2.2.2.2.2.2.1 bt227.2.2.2.2.2.2.2.2.1 bt227.2.2.2.2.2.2.2.2.2.1 bt227.2.2.2.2.2.2.2.2.2.2.1 bt227.2.2.2.2.2.2.2.2.2.2.2.1 bt227.2.2.2.2.2.2.2.2.2.2.2.2.1 bt227.2.2.2.2.2.2.2.2.2.2.2.2.2 t224).bind fun bt241 => ((laws_eqDisk.f bt241.1 bt241.2.1 bt241.2.2.1 bt241.2.2.2.1 bt241.2.2.2.2.1 bt241.2.2.2.2.2.1 bt241.2.2.2.2.2.2.1 bt241.2.2.2.2.2.2.2.1 bt241.2.2.2.2.2.2.2.2.1 bt241.2.2.2.2.2.2.2.2.2.1 bt241.2.2.2.2.2.2.2.2.2.2.1 bt241.2.2.2.2.2.2.2.2.2.2.2.1 bt241.2.2.2.2.2.2.2.2.2.2.2.2.1 bt241.2.2.2.2.2.2.2.2.2.2.2.2.2 bt209.1 bt209.2.1 bt209.2.2.1 bt209.2.2.2.1 bt209.2.2.2.2.1 bt209.2.2.2.2.2.1 bt209.2.2.2.2.2.2.1 bt209.2.2.2.2.2.2.2.1 bt209.2.2.2.2.2.2.2.2.1 bt209.2.2.2.2.2.2.2.2.2.1 bt209.2.2.2.2.2.2.2.2.2.2.1 bt209.2.2.2.2.2.2.2.2.2.2.2.1 bt209.2.2.2.2.2.2.2.2.2.2.2.2.1 bt209.2.2.2.2.2.2.2.2.2.2.2.2.2).bind fun t256 => (if t256 = true then ((laws_toRawS.f k l1).bind fun t257 => ((laws_eqRawS.f k t224 t257).bind fun t260 => (if t260 = true then (some true) else (some false)))) else (some false))))))))))
/-! ### spec_RecordCut: function 28 -/
def spec_RecordCut.f (k : Nat) (a0_0 : Int) (a0_1 : Int) (a0_2 : Int) (a0_3 : Int) (a0_4 : Int) (a0_5 : Int) (a0_6 : Int) (a0_7 : Int) (a0_8 : Int) (a0_9 : Int) (a0_10 : Int) (a0_11 : Int) (a0_12 : Int) (a0_13 : Int) (l1 : List (S92)) (a2 : Int) : Option (Int × Int × Int × Int × Int × Int × Int × Int × Int × Int × Int × Int × Int × Int) := if a2 < 0 then (if 0 > (l1.length : Int) then (if 0 ≤ (l1.length : Int) then (if (l1.length : Int) ≤ (l1.length : Int) then ((spec_DiskWrite.f k a0_0 a0_1 a0_2 a0_3 a0_4 a0_5 a0_6 a0_7 a0_8 a0_9 a0_10 a0_11 a0_12 a0_13 (l1.take ((l1.length : Int) : Int).toNat)).bind fun bt267 => (some (bt267.1, bt267.2.1, bt267.2.2.1, bt267.2.2.2.1, bt267.2.2.2.2.1, bt267.2.2.2.2.2.1, bt267.2.2.2.2.2.2.1, bt267.2.2.2.2.2.2.2.1, bt267.2.2.2.2.2.2.2.2.1, bt267.2.2.2.2.2.2.2.2.2.1, bt267.2.2.2.2.2.2.2.2.2.2.1, bt267.2.2.2.2.2.2.2.2.2.2.2.1, bt267.2.2.2.2.2.2.2.2.2.2.2.2.1, bt267.2.2.2.2.2.2.2.2.2.2.2.2.2))) else (none)) else (none)) else (if 0 ≤ (l1.length : Int) then ((spec_DiskWrite.f k a0_0 a0_1 a0_2 a0_3 a0_4 a0_5 a0_6 a0_7 a0_8 a0_9 a0_10 a0_11 a0_12 a0_13 (l1.take 0)).bind fun bt285 => (some (bt285.1, bt285.2.1, bt285.2.2.1, bt285.2.2.2.1, bt285.2.2.2.2.1, bt285.2.2.2.2.2.1, bt285.2.2.2.2.2.2.1, bt285.2.2.2.2.2.2.2.1, bt285.2.2.2.2.2.2.2.2.1, bt285.2.2.2.2.2.2.2.2.2.1, bt285.2.2.2.2.2.2.2.2.2.2.1, bt285.2.2.2.2.2.2.2.2.2.2.2.1, bt285.2.2.2.2.2.2.2.2.2.2.2.2.1, bt285.2.2.2.2.2.2.2.2.2.2.2.2.2))) else (none))) else (if a2 > (l1.length : Int) then (if 0 ≤ (l1.length : Int) then (if (l1.length : Int) ≤ (l1.length : Int) then ((spec_DiskWrite.f k a0_0 a0_1 a0_2 a0_3 a0_4 a0_5 a0_6 a0_7 a0_8 a0_9 a0_10 a0_11 a0_12 a0_13 (l1.take ((l1.length : Int) : Int).toNat)).bind fun bt303 => (some (bt303.1, bt303.2.1, bt303.2.2.1, bt303.2.2.2.1, bt303.2.2.2.2.1, bt303.2.2.2.2.2.1, bt303.2.2.2.2.2.2.1, bt303.2.2.2.2.2.2.2.1, bt303.2.2.2.2.2.2.2.2.1, bt303.2.2.2.2.2.2.2.2.2.1, bt303.2.2.2.2.2.2.2.2.2.2.1, bt303.2.2.2.2.2.2.2.2.2.2.2.1, bt303.2.2.2.2.2.2.2.2.2.2.2.2.1, bt303.2.2.2.2.2.2.2.2.2.2.2.2.2))) else (none)) else (none)) else (if 0 ≤ a2 then (if a2 ≤ (l1.length : Int) then ((spec_DiskWrite.f k a0_0 a0_1 a0_2 a0_3 a0_4 a0_5 a0_6 a0_7 a0_8 a0_9 a0_10 a0_11 a0_12 a0_13 (l1.take (a2 : Int).toNat)).bind fun bt321 => (some (bt321.1, bt321.2.1, bt321.2.2.1, bt321.2.2.2.1, bt321.2.2.2.2.1, bt321.2.2.2.2.2.1, bt321.2.2.2.2.2.2.1, bt321.2.2.2.2.2.2.2.1, bt321.2.2.2.2.2.2.2.2.1, bt321.2.2.2.2.2.2.2.2.2.1, bt321.2.2.2.2.2.2.2.2.2.2.1, bt321.2.2.2.2.2.2.2.2.2.2.2.1, bt321.2.2.2.2.2.2.2.2.2.2.2.2.1, bt321.2.2.2.2.2.2.2.2.2.2.2.2.2))) else (none)) else (none)))
/-! ### impl_RecordCut: function 29 -/
def impl_RecordCut.f (a0_0 : Int) (a0_1 : Int) (a0_2 : Int) (a0_3 : Int) (a0_4 : Int) (a0_5 : Int) (a0_6 : Int) (a0_7 : Int) (a0_8 : Int) (a0_9 : Int) (a0_10 : Int) (a0_11 : Int) (a0_12 : Int) (a0_13 : Int) (l1 : List (S92)) (a2 : Int) : Option (Int × Int × Int × Int × Int × Int × Int × Int × Int × Int × Int × Int × Int × Int) := if 0 ≤ (mx 0 (mn a2 (l1.length : Int))) then (if (mx 0 (mn a2 (l1.length : Int))) ≤ (l1.length : Int) then ((impl_DiskWrite.f a0_0 a0_1 a0_2 a0_3 a0_4 a0_5 a0_6 a0_7 a0_8 a0_9 a0_10 a0_11 a0_12 a0_13 (l1.take ((mx 0 (mn a2 (l1.length : Int))) : Int).toNat)).bind fun bt341 => (some (bt341.1, bt341.2.1, bt341.2.2.1, bt341.2.2.2.1, bt341.2.2.2.2.1, bt341.2.2.2.2.2.1, bt341.2.2.2.2.2.2.1, bt341.2.2.2.2.2.2.2.1, bt341.2.2.2.2.2.2.2.2.1, bt341.2.2.2.2.2.2.2.2.2.1, bt341.2.2.2.2.2.2.2.2.2.2.1, bt341.2.2.2.2.2.2.2.2.2.2.2.1, bt341.2.2.2.2.2.2.2.2.2.2.2.2.1, bt341.2.2.2.2.2.2.2.2.2.2.2.2.2))) else (none)) else (none)
/-! ### laws_FnExactRecordCut: function 6 -/
def laws_FnExactRecordCut.f (k : Nat) (a0_0 : Int) (a0_1 : Int) (a0_2 : Int) (a0_3 : Int) (a0_4 : Int) (a0_5 : Int) (a0_6 : Int) (a0_7 : Int) (a0_8 : Int) (a0_9 : Int) (a0_10 : Int) (a0_11 : Int) (a0_12 : Int) (a0_13 : Int) (l1 : List (S95)) (a2 : Int) : Option (Bool) := (laws_szRawS.f l1 1048576).bind fun t356 => (if t356 < 0 then (some true) else ((laws_toDisk.f a0_0 a0_1 a0_2 a0_3 a0_4 a0_5 a0_6 a0_7 a0_8 a0_9 a0_10 a0_11 a0_12 a0_13).bind fun bt357 => ((laws_toRawS.f k l1).bind fun t371 => ((spec_RecordCut.f k bt357.1 bt357.2.1 bt357.2.2.1 bt357.2.2.2.1 bt357.2.2.2.2.1 bt357.2.2.2.2.2.1 bt357.2.2.2.2.2.2.1 bt357.2.2.2.2.2.2.2.1 bt357.2.2.2.2.2.2.2.2.1 bt357.2.2.2.2.2.2.2.2.2.1 bt357.2.2.2.2.2.2.2.2.2.2.1 bt357.2.2.2.2.2.2.2.2.2.2.2.1 bt357.2.2.2.2.2.2.2.2.2.2.2.2.1 bt357.2.2.2.2.2.2.2.2.2.2.2.2.2 t371 a2).bind fun bt374 => ((laws_toRawS.f k l1).bind fun t389 => ((laws_toDisk.f a0_0 a0_1 a0_2 a0_3 a0_4 a0_5 a0_6 a0_7 a0_8 a0_9 a0_10 a0_11 a0_12 a0_13).bind fun bt392 => ((impl_RecordCut.f bt392.1 bt392.2.1 bt392.2.2.1 bt392.2.2.2.1 bt392.2.2.2.2.1 bt392.2.2.2.2.2.1 bt392.2.2.2.2.2.2.1 bt392.2.2.2.2.2.2.2.1 bt392.2.2.2.2.2.2.2.2.1 bt392.2.2.2.2.2.2.2.2.2.1 bt392.2.2.2.2.2.2.2.2.2.2.1 bt392.2.2.2.2.2.2.2.2.2.2.2.1 bt392.2.2.2.2.2.2.2.2.2.2.2.2.1 bt392.2.2.2.2.2.2.2.2.2.2.2.2.2 t389 a2).bind fun bt406 => ((laws_eqDisk.f bt406.1 bt406.2.1 bt406.2.2.1 bt406.2.2.2.1 bt406.2.2.2.2.1 bt406.2.2.2.2.2.1 bt406.2.2.2.2.2.2.1 bt406.2.2.2.2.2.2.2.1 bt406.2.2.2.2.2.2.2.2.1 bt406.2.2.2.2.2.2.2.2.2.1 bt406.2.2.2.2.2.2.2.2.2.2.1 bt406.2.2.2.2.2.2.2.2.2.2.2.1 bt406.2.2.2.2.2.2.2.2.2.2.2.2.1 bt406.2.2.2.2.2.2.2.2.2.2.2.2.2 bt374.1 bt374.2.1 bt374.2.2.1 bt374.2.2.2.1 bt374.2.2.2.2.1 bt374.2.2.2.2.2.1 bt374.2.2.2.2.2.2.1 bt374.2.2.2.2.2.2.2.1 bt374.2.2.2.2.2.2.2.2.1 bt374.2.2.2.2.2.2.2.2.2.1 bt374.2.2.2.2.2.2.2.2.2.2.1 bt374.2.2.2.2.2.2.2.2.2.2.2.1 bt374.2.2.2.2.2.2.2.2.2.2.2.2.1 bt374.2.2.2.2.2.2.2.2.2.2.2.2.2).bind fun t421 => (if t421 = true then ((laws_toRawS.f k l1).bind fun t422 => ((laws_eqRawS.f k t389 t422).bind fun t425 => (if t425 = true then (some true) else (some false)))) else (some false))))))))))
end Go.Proofs.Ytcgfgodpiobcfaa.R

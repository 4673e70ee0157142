/- What functions of the given program compute, as Lean functions over numbers and lists; written by a program of this session's. No condition. -/
import Derived.Test.YtobfeplphdnhfaaProg
import Derived.Below
import Derived.Deep.Draws
import Derived.Deep.AppendLies
import Derived.Maps.AppendAt
import Derived.OwnWalk
import Derived.Laws.BytesArg
import Derived.Laws.MakeOwn
import Derived.Laws.OwnMore
import Derived.Deep.OwnRows
import Derived.Tactics
import Derived.Lib.ConvBytes
import Derived.Laws.Slices
import Derived.WalkKit
import Derived.KernelRfl
import Derived.RowKit3
import Derived.Deep.LoopGhost
import Derived.Deep.QuietTactic
import Derived.BigQuiet
import Derived.WideLaws
import Derived.Deep.DeepCutAuto
import Derived.Deep.CutBlock
import Derived.Deep.RegionHeld3
import Derived.Laws.Rows
import Derived.Lib.AppendStr
import Derived.ArgAppend
import Derived.Laws.IdiomCopy
import Derived.OrdersHeld
import Derived.Laws.BitsLemmas
import Derived.RowKit
import Derived.Test.YtobfeplphdnhfaaWWords
import Derived.Test.YtobfeplphdnhfaaWLast
import Derived.Test.YtobfeplphdnhfaaWTab
import Derived.Test.YtobfeplphdnhfaaWFour
import Derived.Test.YtobfeplphdnhfaaWQPut
import Derived.Test.YtobfeplphdnhfaaWApart
import Derived.Test.YtobfeplphdnhfaaWArr
import Derived.Test.YtobfeplphdnhfaaWZeros
import Derived.Test.YtobfeplphdnhfaaWFoot
import Derived.Test.YtobfeplphdnhfaaWKept
import Derived.Test.YtobfeplphdnhfaaWShare
import Derived.Test.YtobfeplphdnhfaaWN
import Derived.Test.YtobfeplphdnhfaaWFootNe
import Derived.Test.YtobfeplphdnhfaaWAt
import Derived.Test.YtobfeplphdnhfaaWEqStruct
import Derived.Test.YtobfeplphdnhfaaWRepsOne
import Derived.Test.YtobfeplphdnhfaaWInv
import Derived.Test.YtobfeplphdnhfaaWInvWords
import Derived.Test.YtobfeplphdnhfaaWGuard
import Derived.Test.YtobfeplphdnhfaaWNEv
import Derived.Test.YtobfeplphdnhfaaWMore
import Derived.Test.YtobfeplphdnhfaaWCopy
namespace Go.Proofs.Ytobfeplphdnhfaa.Q
open Go.RowKit Go.Proofs.YtobfeplphdnhfaaW.PrintWords Go.Proofs.YtobfeplphdnhfaaW.PrintLast Go.Proofs.YtobfeplphdnhfaaW.PrintMore
attribute [local go_sem] max2_int min2_int max_two min_two max_three min_three max_four min_four   -- for this text's walks alone
set_option linter.unusedVariables false
set_option linter.unusedSimpArgs false



def errW : Option Int → Value
  | none => .nilIface
  | some c => .iface 0 (.int .i64 c)
theorem errW_none : errW none = .nilIface := rfl
theorem errW_some (c : Int) : errW (some c) = .iface 0 (.int .i64 c) := rfl

theorem info3 : (Try.prog.info? 3).map (fun i => (i.zero, i.size, i.bytes)) = some (some (.int .i64 0), 1, 8) := by kernel_rfl
theorem info5 : (Try.prog.info? 5).map (fun i => (i.zero, i.size, i.bytes)) = some (some (.int .u8 0), 1, 1) := by kernel_rfl
theorem info32 : (Try.prog.info? 32).map (fun i => (i.zero, i.size, i.bytes)) = some (some (.agg #[(.int .i64 0), (.int .i64 0), (.string ⟨#[]⟩)]), 3, 32) := by kernel_rfl
-- the values' own types
/-! #### struct type 32 -/
structure S32 where
  f0 : Int
  f1 : Int
  f2 : ByteArray
def z32 : S32 := ⟨(0 : Int), (0 : Int), (⟨#[]⟩ : ByteArray)⟩
def k32 : Kd S32 := Kd.iso (Kd.pair (Kd.int .i64) (Kd.pair (Kd.int .i64) Kd.string)) (fun x : S32 => (x.f0, x.f1, x.f2))
theorem k32_open {w : World} {x : S32} {cs : List Value} (h : k32.K w x cs) : cs = [.int .i64 x.f0, .int .i64 x.f1, .string x.f2] := by
  obtain ⟨_, _, rfl, rfl, ⟨_, _, rfl, rfl, rfl⟩⟩ := h
  exact rfl
theorem k32_openM {w : World} {base : Nat} {ok : Nat → Prop} {x : S32} {cs : List Value} (h : k32.M w base ok x cs) : cs = [.int .i64 x.f0, .int .i64 x.f1, .string x.f2] := by
  obtain ⟨_, _, rfl, rfl, ⟨_, _, rfl, rfl, rfl⟩⟩ := h
  exact rfl
theorem k32_mk (w : World) (x : S32)  : k32.K w x [.int .i64 x.f0, .int .i64 x.f1, .string x.f2] := ⟨[.int .i64 x.f0], [.int .i64 x.f1, .string x.f2], rfl, rfl, ⟨[.int .i64 x.f1], [.string x.f2], rfl, rfl, rfl⟩⟩
theorem k32_mkM (w : World) (base : Nat) (ok : Nat → Prop) (x : S32)  : k32.M w base ok x [.int .i64 x.f0, .int .i64 x.f1, .string x.f2] := ⟨[.int .i64 x.f0], [.int .i64 x.f1, .string x.f2], rfl, rfl, ⟨[.int .i64 x.f1], [.string x.f2], rfl, rfl, rfl⟩⟩
def rd_T32 (xs : List S32) (i : Int) : S32 := xs.getD i.toNat z32
theorem at_T32 {w : World} {A : Option Addr} {n : Nat} {xs : List S32} (h : Kd.C k32 w A n xs) (i : Int) (h0 : 0 ≤ i) (h1 : i < n) : ∃ ad , A = some ad ∧ w.cell? (ad.add (i.toNat * 3)) = some (.int .i64 (rd_T32 xs i).f0) ∧ w.cell? ⟨(ad.add (i.toNat * 3)).block, (ad.add (i.toNat * 3)).off + 1, none⟩ = some (.int .i64 (rd_T32 xs i).f1) ∧ w.cell? ⟨(ad.add (i.toNat * 3)).block, (ad.add (i.toNat * 3)).off + 2, none⟩ = some (.string (rd_T32 xs i).f2) := by
  obtain ⟨ad, c, e, _, hK, hc0⟩ := Kd.C_get h z32 i h0 h1
  have hc : ∀ j u, c[j]? = some u → w.cell? (ad.add (i.toNat * 3 + j)) = some u := hc0
  obtain rfl := k32_open hK
  exact ⟨ad, e, hc 0 _ rfl, by rw [← add_field _ _ 1 (by omega)]; exact hc 1 _ rfl, by rw [← add_field _ _ 2 (by omega)]; exact hc 2 _ rfl⟩

def rd_L4 (xs : List (List Int)) (i : Int) : (List Int) := xs.getD i.toNat ([] : List Int)
theorem at_L4 {w : World} {A : Option Addr} {n : Nat} {xs : List (List Int)} (h : Kd.C (Kd.slice 3 (Kd.int .i64)) w A n xs) (i : Int) (h0 : 0 ≤ i) (h1 : i < n) : ∃ ad A0 c0, A = some ad ∧ w.cell? (ad.add i.toNat) = some (.slice A0 (rd_L4 xs i).length c0) ∧ (rd_L4 xs i).length ≤ c0 ∧ (Kd.int .i64).C w A0 (rd_L4 xs i).length (rd_L4 xs i) := by
  obtain ⟨ad, c, e, _, hK, hc0⟩ := Kd.C_get h ([] : List Int) i h0 h1
  have hc : ∀ j u, c[j]? = some u → w.cell? (ad.add (i.toNat * 1 + j)) = some u := hc0
  obtain ⟨A0, c0, rfl, l0, g0⟩ := hK
  exact ⟨ad, A0, c0, e, by have hq := hc 0 _ rfl; rwa [Nat.mul_one, Nat.add_zero] at hq, l0, g0⟩

def rd_L5 (xs : List (List S32)) (i : Int) : (List S32) := xs.getD i.toNat ([] : List S32)
theorem at_L5 {w : World} {A : Option Addr} {n : Nat} {xs : List (List S32)} (h : Kd.C (Kd.slice 32 k32) w A n xs) (i : Int) (h0 : 0 ≤ i) (h1 : i < n) : ∃ ad A0 c0, A = some ad ∧ w.cell? (ad.add i.toNat) = some (.slice A0 (rd_L5 xs i).length c0) ∧ (rd_L5 xs i).length ≤ c0 ∧ k32.C w A0 (rd_L5 xs i).length (rd_L5 xs i) := by
  obtain ⟨ad, c, e, _, hK, hc0⟩ := Kd.C_get h ([] : List S32) i h0 h1
  have hc : ∀ j u, c[j]? = some u → w.cell? (ad.add (i.toNat * 1 + j)) = some u := hc0
  obtain ⟨A0, c0, rfl, l0, g0⟩ := hK
  exact ⟨ad, A0, c0, e, by have hq := hc 0 _ rfl; rwa [Nat.mul_one, Nat.add_zero] at hq, l0, g0⟩

/-! #### struct type 74 -/
structure S74 where
  f0 : Int
  f1 : Int
  f2 : ByteArray
def z74 : S74 := ⟨(0 : Int), (0 : Int), (⟨#[]⟩ : ByteArray)⟩
def k74 : Kd S74 := Kd.iso (Kd.pair (Kd.int .i64) (Kd.pair (Kd.int .i64) Kd.string)) (fun x : S74 => (x.f0, x.f1, x.f2))
theorem k74_open {w : World} {x : S74} {cs : List Value} (h : k74.K w x cs) : cs = [.int .i64 x.f0, .int .i64 x.f1, .string x.f2] := by
  obtain ⟨_, _, rfl, rfl, ⟨_, _, rfl, rfl, rfl⟩⟩ := h
  exact rfl
theorem k74_openM {w : World} {base : Nat} {ok : Nat → Prop} {x : S74} {cs : List Value} (h : k74.M w base ok x cs) : cs = [.int .i64 x.f0, .int .i64 x.f1, .string x.f2] := by
  obtain ⟨_, _, rfl, rfl, ⟨_, _, rfl, rfl, rfl⟩⟩ := h
  exact rfl
theorem k74_mk (w : World) (x : S74)  : k74.K w x [.int .i64 x.f0, .int .i64 x.f1, .string x.f2] := ⟨[.int .i64 x.f0], [.int .i64 x.f1, .string x.f2], rfl, rfl, ⟨[.int .i64 x.f1], [.string x.f2], rfl, rfl, rfl⟩⟩
theorem k74_mkM (w : World) (base : Nat) (ok : Nat → Prop) (x : S74)  : k74.M w base ok x [.int .i64 x.f0, .int .i64 x.f1, .string x.f2] := ⟨[.int .i64 x.f0], [.int .i64 x.f1, .string x.f2], rfl, rfl, ⟨[.int .i64 x.f1], [.string x.f2], rfl, rfl, rfl⟩⟩
def rd_T74 (xs : List S74) (i : Int) : S74 := xs.getD i.toNat z74
theorem at_T74 {w : World} {A : Option Addr} {n : Nat} {xs : List S74} (h : Kd.C k74 w A n xs) (i : Int) (h0 : 0 ≤ i) (h1 : i < n) : ∃ ad , A = some ad ∧ w.cell? (ad.add (i.toNat * 3)) = some (.int .i64 (rd_T74 xs i).f0) ∧ w.cell? ⟨(ad.add (i.toNat * 3)).block, (ad.add (i.toNat * 3)).off + 1, none⟩ = some (.int .i64 (rd_T74 xs i).f1) ∧ w.cell? ⟨(ad.add (i.toNat * 3)).block, (ad.add (i.toNat * 3)).off + 2, none⟩ = some (.string (rd_T74 xs i).f2) := by
  obtain ⟨ad, c, e, _, hK, hc0⟩ := Kd.C_get h z74 i h0 h1
  have hc : ∀ j u, c[j]? = some u → w.cell? (ad.add (i.toNat * 3 + j)) = some u := hc0
  obtain rfl := k74_open hK
  exact ⟨ad, e, hc 0 _ rfl, by rw [← add_field _ _ 1 (by omega)]; exact hc 1 _ rfl, by rw [← add_field _ _ 2 (by omega)]; exact hc 2 _ rfl⟩


/-! ### spec_l1Open: function 29 -/
def spec_l1Open.f (l0 : List Int) : Option (List Int × Int) := if (l0.length : Int) > 2000 then (if 2000 ≤ (l0.length : Int) then (some (l0.take 2000, 0)) else (none)) else (some (l0, 0))
/-! ### spec_l1Rd_pick: function 46 -/
def spec_l1Rd_pick.j0 : Nat → Int → Bool → List Int → Int → Option (Int × Int)
  | 0, _, _, _, _ => none
  | k + 1, x1, x24, x1000, x1001 => if x24 = true then (some (0, x1001)) else (if (wrap64 (x1001 - 1)) < (x1000.length : Int) then (if 0 ≤ (wrap64 (x1001 - 1)) then (if x1 = 0 then (none) else (some (Int.tmod (wrap64 (rd x1000 (wrap64 (x1001 - 1)))) x1, x1001))) else (none)) else (if (x1000.length : Int) = 0 then (none) else (if 0 ≤ (Int.tmod (wrap64 (x1001 - 1)) (x1000.length : Int)) then (if (Int.tmod (wrap64 (x1001 - 1)) (x1000.length : Int)) < (x1000.length : Int) then (if 0 ≤ (Int.tmod (wrap64 ((wrap64 ((wrap64 (x1001 - 1)) * 7)) + 3)) (x1000.length : Int)) then (if (Int.tmod (wrap64 ((wrap64 ((wrap64 (x1001 - 1)) * 7)) + 3)) (x1000.length : Int)) < (x1000.length : Int) then (if x1 = 0 then (none) else (some (Int.tmod (Go.bits .xor .i64 (wrap64 ((wrap64 ((wrap64 ((wrap64 ((wrap64 (rd x1000 (Int.tmod (wrap64 (x1001 - 1)) (x1000.length : Int)))) * 131)) + (wrap64 ((wrap64 (rd x1000 (Int.tmod (wrap64 ((wrap64 ((wrap64 (x1001 - 1)) * 7)) + 3)) (x1000.length : Int)))) * 1117)))) + (wrap64 ((wrap64 (x1001 - 1)) * 29)))) + (wrap64 ((wrap64 (Int.tdiv (wrap64 (x1001 - 1)) (x1000.length : Int))) * 53)))) (wrap64 (Int.tdiv (wrap64 ((wrap64 ((wrap64 ((wrap64 ((wrap64 (rd x1000 (Int.tmod (wrap64 (x1001 - 1)) (x1000.length : Int)))) * 131)) + (wrap64 ((wrap64 (rd x1000 (Int.tmod (wrap64 ((wrap64 ((wrap64 (x1001 - 1)) * 7)) + 3)) (x1000.length : Int)))) * 1117)))) + (wrap64 ((wrap64 (x1001 - 1)) * 29)))) + (wrap64 ((wrap64 (Int.tdiv (wrap64 (x1001 - 1)) (x1000.length : Int))) * 53)))) 64))) x1, x1001))) else (none)) else (none)) else (none)) else (none))))
def spec_l1Rd_pick.f (k : Nat) (s0_0 : List Int) (s0_1 : Int) (a1 : Int) : Option (Int × Int) := if a1 < 1 then (spec_l1Rd_pick.j0 k a1 true s0_0 (wrap64 (s0_1 + 1))) else (spec_l1Rd_pick.j0 k a1 ((s0_0.length : Int) == 0) s0_0 (wrap64 (s0_1 + 1)))
/-! ### spec_l1Rd_text: function 48 -/
def spec_l1Rd_text.l0 : Nat → List Int → Int → List Int → Int → Option (ByteArray × Int)
  | 0, _, _, _, _ => none
  | k + 1, x5, x6, x1000, x1001 => if x6 > 0 then ((spec_l1Rd_pick.f k x1000 x1001 256).bind fun bt112 => (if x5.length < 140737488355328 then (spec_l1Rd_text.l0 k (x5 ++ [(bt112.1) % 256]) (wrap64 (x6 - 1)) x1000 bt112.2) else (none))) else (some (strOfNums x5, x1001))
def spec_l1Rd_text.f (k : Nat) (s0_0 : List Int) (s0_1 : Int) (a1 : Int) : Option (ByteArray × Int) := (spec_l1Rd_pick.f k s0_0 s0_1 (wrap64 (a1 + 1))).bind fun bt110 => (spec_l1Rd_text.l0 k (([] : List Int)) bt110.1 s0_0 bt110.2)
/-! ### spec_l1Many: function 49 -/
def spec_l1Many.l0 : Nat → ByteArray → Int → ByteArray → Option (ByteArray)
  | 0, _, _, _ => none
  | k + 1, x0, x1, x5 => if x1 > 0 then (if (Int.tmod x1 2) = 1 then (if x5.size + x0.size ≤ 9223372036854775807 then (if x0.size + x0.size ≤ 9223372036854775807 then (spec_l1Many.l0 k (x0 ++ x0) (wrap64 (Int.tdiv x1 2)) (x5 ++ x0)) else (none)) else (none)) else (if x0.size + x0.size ≤ 9223372036854775807 then (spec_l1Many.l0 k (x0 ++ x0) (wrap64 (Int.tdiv x1 2)) x5) else (none))) else (some x5)
def spec_l1Many.f (k : Nat) (a0 : ByteArray) (a1 : Int) : Option (ByteArray) := spec_l1Many.l0 k a0 a1 (⟨#[]⟩ : ByteArray)
/-! ### spec_l6Letter: function 38 -/
def spec_l6Letter.j0 : Nat → Int → List Int → Int → Int → Int → ByteArray → Option (Int × Int × ByteArray × Int)
  | 0, _, _, _, _, _, _ => none
  | k + 1, x4, x1000, x1001, x125000, x125001, x125002 => if x4 = 1 then ((some (([(-1), 20, 21] : List Int) : List Int)).bind fun y130 => ((spec_l1Rd_pick.f k x1000 x1001 3).bind fun bt133 => (if 0 ≤ bt133.1 then (if bt133.1 < (y130.length : Int) then (if x4 = 2 then ((some (([(-1), 20, 21] : List Int) : List Int)).bind fun y136 => ((spec_l1Rd_pick.f k x1000 bt133.2 3).bind fun bt139 => (if 0 ≤ bt139.1 then (if bt139.1 < (y136.length : Int) then (some (rd y130 bt133.1, rd y136 bt139.1, x125002, bt139.2)) else (none)) else (none)))) else (some (rd y130 bt133.1, x125001, x125002, bt133.2))) else (none)) else (none)))) else (if x4 = 2 then ((some (([(-1), 20, 21] : List Int) : List Int)).bind fun y142 => ((spec_l1Rd_pick.f k x1000 x1001 3).bind fun bt145 => (if 0 ≤ bt145.1 then (if bt145.1 < (y142.length : Int) then (some (x125000, rd y142 bt145.1, x125002, bt145.2)) else (none)) else (none)))) else (some (x125000, x125001, x125002, x1001)))
def spec_l6Letter.f (k : Nat) (s0_0 : List Int) (s0_1 : Int) : Option (Int × Int × ByteArray × Int) := (spec_l1Rd_pick.f k s0_0 s0_1 5).bind fun bt118 => ((spec_l1Rd_pick.f k s0_0 bt118.2 5).bind fun bt120 => ((spec_l1Rd_text.f k s0_0 bt120.2 3).bind fun bt122 => ((spec_l1Rd_pick.f k s0_0 bt122.2 24).bind fun bt125 => (if bt125.1 = 0 then ((spec_l1Rd_pick.f k s0_0 bt125.2 2).bind fun bt127 => ((spec_l1Many.f k (⟨#[116]⟩ : ByteArray) (wrap64 (600 + bt127.1))).bind fun t129 => (spec_l6Letter.j0 k bt125.1 s0_0 bt127.2 bt118.1 bt120.1 t129))) else (spec_l6Letter.j0 k bt125.1 s0_0 bt125.2 bt118.1 bt120.1 bt122.1)))))
/-! ### spec_l6Bag: function 30 -/
mutual
def spec_l6Bag.j0 : Nat → Int → List Int → Int → Int → Option (Int × (List (S32)) × Int)
  | 0, _, _, _, _ => none
  | k + 1, x4, x1000, x1001, x152000 => (spec_l1Rd_pick.f k x1000 x1001 24).bind fun bt156 => (if bt156.1 = 0 then ((spec_l1Rd_pick.f k x1000 bt156.2 2).bind fun bt158 => (spec_l6Bag.j1 k (wrap64 (64 + bt158.1)) x1000 bt158.2 (wrap64 (64 + bt158.1)))) else (spec_l6Bag.j1 k x4 x1000 bt156.2 x152000))
def spec_l6Bag.j1 : Nat → Int → List Int → Int → Int → Option (Int × (List (S32)) × Int)
  | 0, _, _, _, _ => none
  | k + 1, x4, x1000, x1001, x152000 => spec_l6Bag.l0 k x4 0 x1000 x1001 x152000 ([] : List (S32))
def spec_l6Bag.l0 : Nat → Int → Int → List Int → Int → Int → List (S32) → Option (Int × (List (S32)) × Int)
  | 0, _, _, _, _, _, _ => none
  | k + 1, x4, x5, x1000, x1001, x152000, x152001 => if x5 < x4 then ((spec_l6Letter.f k x1000 x1001).bind fun bt160 => (if x152001.length < 4398046511104 then (spec_l6Bag.l0 k x4 (wrap64 (x5 + 1)) x1000 bt160.2.2.2 x152000 (x152001 ++ [(⟨bt160.1, bt160.2.1, bt160.2.2.1⟩ : S32)])) else (none))) else ((spec_l1Rd_pick.f k x1000 x1001 20).bind fun bt167 => (if bt167.1 = 0 then ((spec_l6Letter.f k x1000 bt167.2).bind fun bt169 => (if x152001.length < 4398046511104 then ((some (x152001 ++ [(⟨bt169.1, bt169.2.1, bt169.2.2.1⟩ : S32)] : List (S32))).bind fun y173 => (if bt167.1 = 1 then ((spec_l1Rd_pick.f k x1000 bt169.2.2.2 2).bind fun bt176 => (some (wrap64 (-bt176.1), y173, bt176.2))) else (some (x152000, y173, bt169.2.2.2)))) else (none))) else (if bt167.1 = 1 then ((spec_l1Rd_pick.f k x1000 bt167.2 2).bind fun bt178 => (some (wrap64 (-bt178.1), x152001, bt178.2))) else (some (x152000, x152001, bt167.2)))))
end
def spec_l6Bag.f (k : Nat) (s0_0 : List Int) (s0_1 : Int) : Option (Int × (List (S32)) × Int) := (spec_l1Rd_pick.f k s0_0 s0_1 8).bind fun bt149 => ((spec_l1Rd_pick.f k s0_0 bt149.2 (wrap64 ((wrap64 (1 + bt149.1)) + 1))).bind fun bt152 => ((spec_l1Rd_pick.f k s0_0 bt152.2 4).bind fun bt154 => (if bt154.1 = 0 then (spec_l6Bag.j0 k (wrap64 (1 + bt149.1)) s0_0 bt154.2 (wrap64 (1 + bt149.1))) else (spec_l6Bag.j0 k bt152.1 s0_0 bt154.2 (wrap64 (1 + bt149.1))))))
/-! ### spec_l6Place: function 31 -/
def spec_l6Place.f (k : Nat) (s0_0 : List Int) (s0_1 : Int) : Option (Int × Int) := (spec_l1Rd_pick.f k s0_0 s0_1 10).bind fun bt180 => (if bt180.1 = 0 then ((spec_l1Rd_pick.f k s0_0 bt180.2 9).bind fun bt182 => (some (wrap64 ((-1) - bt182.1), bt182.2))) else (if bt180.1 = 1 then ((spec_l1Rd_pick.f k s0_0 bt180.2 3).bind fun bt184 => (some (wrap64 (9223372036854775807 - bt184.1), bt184.2))) else (if bt180.1 = 2 then ((spec_l1Rd_pick.f k s0_0 bt180.2 3).bind fun bt186 => (some (wrap64 ((-9223372036854775808) + bt186.1), bt186.2))) else ((spec_l1Rd_pick.f k s0_0 bt180.2 12).bind fun bt188 => (some (bt188.1, bt188.2))))))
/-! ### spec_DrawBagTake: function 7 -/
def spec_DrawBagTake.f (k : Nat) (l0 : List Int) : Option (Int × (List (S32)) × Int) := (spec_l1Open.f l0).bind fun bt191 => ((spec_l6Bag.f k bt191.1 bt191.2).bind fun bt194 => ((spec_l6Place.f k bt191.1 bt194.2.2).bind fun bt200 => (some (bt194.1, bt194.2.1, bt200.1))))
/-! ### spec_l1In: function 32 -/
def spec_l1In.f (a0 : Int) (a1 : Int) (a2 : Int) : Option (Bool) := if a0 ≥ a1 then (some (decide (a0 ≤ a2))) else (some false)
/-! ### spec_LetterOk: function 17 -/
def spec_LetterOk.f (a0_0 : Int) (a0_1 : Int) (a0_2 : ByteArray) : Option (Bool) := (spec_l1In.f a0_0 0 20).bind fun t203 => (if t203 = true then ((spec_l1In.f a0_1 0 20).bind fun t204 => (if t204 = true then (some (decide ((a0_2.size : Int) ≤ 600))) else (some false))) else (some false))
/-! ### spec_BagOk: function 8 -/
mutual
def spec_BagOk.j0 : Nat → Bool → Int → List (S32) → Option (Bool)
  | 0, _, _, _ => none
  | k + 1, x15, x206000, x206001 => if x15 = true then (some false) else (spec_BagOk.l0 k 0 x206000 x206001)
def spec_BagOk.l0 : Nat → Int → Int → List (S32) → Option (Bool)
  | 0, _, _, _ => none
  | k + 1, x3, x206000, x206001 => if x3 < (x206001.length : Int) then (if 0 ≤ x3 then ((spec_LetterOk.f ((rd_T32 x206001 x3).f0) ((rd_T32 x206001 x3).f1) ((rd_T32 x206001 x3).f2)).bind fun t208 => (if t208 = true then (spec_BagOk.l0 k (wrap64 (x3 + 1)) x206000 x206001) else (some false))) else (none)) else (some true)
end
def spec_BagOk.f (k : Nat) (a0_0 : Int) (l0_1 : List (S32)) : Option (Bool) := (spec_l1In.f a0_0 1 64).bind fun t206 => (if t206 = true then (spec_BagOk.j0 k (decide ((l0_1.length : Int) > a0_0)) a0_0 l0_1) else (spec_BagOk.j0 k true a0_0 l0_1))
/-! ### impl_in: function 47 -/
def impl_in.f (a0 : Int) (a1 : Int) (a2 : Int) : Option (Bool) := if a0 ≥ a1 then (some (decide (a0 ≤ a2))) else (some false)
/-! ### impl_LetterOk: function 39 -/
def impl_LetterOk.f (a0_0 : Int) (a0_1 : Int) (a0_2 : ByteArray) : Option (Bool) := (impl_in.f a0_0 0 20).bind fun t210 => (if t210 = true then ((impl_in.f a0_1 0 20).bind fun t211 => (if t211 = true then (some (decide ((a0_2.size : Int) ≤ 600))) else (some false))) else (some false))
/-! ### impl_BagOk: function 33 -/
def impl_BagOk.l0 : Nat → List (S32) → Int → Int → Int → List (S32) → Option (Bool)
  | 0, _, _, _, _, _ => none
  | k + 1, x6, x7, x8, x213000, x213001 => if x8 < x7 then (if 0 ≤ x8 then (if x8 < (x6.length : Int) then ((impl_LetterOk.f ((rd_T32 x6 x8).f0) ((rd_T32 x6 x8).f1) ((rd_T32 x6 x8).f2)).bind fun t215 => (if t215 = true then (impl_BagOk.l0 k x6 x7 (wrap64 (x8 + 1)) x213000 x213001) else (some false))) else (none)) else (none)) else ((impl_in.f x213000 1 64).bind fun t216 => (if t216 = true then (some (decide ((x213001.length : Int) ≤ x213000))) else (some false)))
def impl_BagOk.f (k : Nat) (a0_0 : Int) (l0_1 : List (S32)) : Option (Bool) := impl_BagOk.l0 k l0_1 (l0_1.length : Int) 0 a0_0 l0_1
/-! ### impl_copied_int: function 34 -/
def impl_copied_int.f (l0 : List Int) : Option (List Int) := if l0.length ≤ 17592186044416 then some l0 else none
/-! ### impl_BagFor: function 9 -/
def impl_BagFor.l0 : Nat → Int → List Int → List (S32) → Int → Int → Option (List Int)
  | 0, _, _, _, _, _ => none
  | k + 1, x1, x5, x12, x13, x14 => if x14 < x13 then (if 0 ≤ x14 then (if x14 < (x12.length : Int) then (if ((rd_T32 x12 x14).f1) = x1 then (if x5.length < 17592186044416 then (impl_BagFor.l0 k x1 (x5 ++ [x14]) x12 x13 (wrap64 (x14 + 1))) else (none)) else (impl_BagFor.l0 k x1 x5 x12 x13 (wrap64 (x14 + 1)))) else (none)) else (none)) else ((impl_copied_int.f x5).bind fun t224 => (some t224))
def impl_BagFor.f (k : Nat) (a0_0 : Int) (l0_1 : List (S32)) (a1 : Int) : Option (List Int) := (impl_BagOk.f k a0_0 l0_1).bind fun t218 => (if t218 = true then (impl_BagFor.l0 k a1 ([] : List Int) l0_1 (l0_1.length : Int) 0) else (some ([] : List Int)))
/-! ### impl_Letter: function 37 -/
def impl_Letter.f (l0 : List (S32)) : Option (List (S32)) := if l0.length ≤ 4398046511104 then some l0 else none
/-! ### impl_bagCopy: function 35 -/
def impl_bagCopy.f (a0_0 : Int) (l0_1 : List (S32)) : Option (Int × (List (S32))) := (impl_Letter.f l0_1).bind fun t229 => (some (a0_0, t229))
/-! ### impl_modulo: function 36 -/
def impl_modulo.f (a0 : Int) (a1 : Int) : Option (Int) := if a1 = 0 then (none) else (some (Int.tmod (wrap64 ((Int.tmod a0 a1) + a1)) a1))
/-! ### impl_BagTake: function 10 -/
def impl_BagTake.f (k : Nat) (a0_0 : Int) (l0_1 : List (S32)) (a1 : Int) : Option (Int × (List (S32)) × Int × Int × ByteArray × Bool) := (impl_BagOk.f k a0_0 l0_1).bind fun t235 => (if t235 = true then (if (l0_1.length : Int) = 0 then ((impl_bagCopy.f a0_0 l0_1).bind fun bt236 => (some (bt236.1, bt236.2, 0, 0, (⟨#[]⟩ : ByteArray), false))) else ((impl_modulo.f a1 (l0_1.length : Int)).bind fun t240 => (if 0 ≤ t240 then (if t240 ≤ (l0_1.length : Int) then ((impl_Letter.f (l0_1.take (t240 : Int).toNat)).bind fun t245 => (if 0 ≤ (wrap64 (t240 + 1)) then (if (wrap64 (t240 + 1)) ≤ (l0_1.length : Int) then ((some (l0_1.drop ((wrap64 (t240 + 1)) : Int).toNat : List (S32))).bind fun y248 => (if t245.length + y248.length < 4398046511104 then ((impl_bagCopy.f a0_0 (t245 ++ y248)).bind fun bt255 => (if t240 < (l0_1.length : Int) then (some (bt255.1, bt255.2, (rd_T32 l0_1 t240).f0, (rd_T32 l0_1 t240).f1, (rd_T32 l0_1 t240).f2, true)) else (none))) else (none))) else (none)) else (none))) else (none)) else (none)))) else (some (0, ([] : List (S32)), 0, 0, (⟨#[]⟩ : ByteArray), false)))
/-! ### laws_ifInt: function 11 -/
def laws_ifInt.f (a0 : Bool) (a1 : Int) : Option (Int) := if a0 = true then (some a1) else (some 0)
/-! ### laws_FnBagPlaces: function 3 -/
mutual
def laws_FnBagPlaces.l0 : Nat → Int → Int → Int → Int → List (S32) → Option (Bool)
  | 0, _, _, _, _, _ => none
  | k + 1, x4, x5, x6, x266000, x266001 => if x6 ≤ 20 then ((impl_BagFor.f k x266000 x266001 x6).bind fun t270 => (laws_FnBagPlaces.l1 k x4 x5 x6 t270 0 x266000 x266001)) else ((impl_BagTake.f k x266000 x266001 x4).bind fun bt281 => (if x5 = (x266001.length : Int) then (laws_FnBagPlaces.j2 k x5 bt281.2.2.2.2.2 (bt281.2.2.2.2.2 != (decide (x5 > 0))) x266000 x266001 bt281.1 bt281.2.1) else (laws_FnBagPlaces.j2 k x5 bt281.2.2.2.2.2 true x266000 x266001 bt281.1 bt281.2.1)))
def laws_FnBagPlaces.l1 : Nat → Int → Int → Int → List Int → Int → Int → List (S32) → Option (Bool)
  | 0, _, _, _, _, _, _, _ => none
  | k + 1, x4, x5, x6, x7, x8, x266000, x266001 => if x8 < (x7.length : Int) then (if 0 ≤ x8 then (if (rd x7 x8) < 0 then (some false) else (if (rd x7 x8) ≥ (x266001.length : Int) then (some false) else (if x8 > 0 then (if 0 ≤ (wrap64 (x8 - 1)) then (if (wrap64 (x8 - 1)) < (x7.length : Int) then (if (rd x7 x8) ≤ (rd x7 (wrap64 (x8 - 1))) then (some false) else (if 0 ≤ (rd x7 x8) then (if (rd x7 x8) < (x266001.length : Int) then (if ((rd_T32 x266001 (rd x7 x8)).f1) = x6 then (laws_FnBagPlaces.l1 k x4 x5 x6 x7 (wrap64 (x8 + 1)) x266000 x266001) else (some false)) else (none)) else (none))) else (none)) else (none)) else (if 0 ≤ (rd x7 x8) then (if (rd x7 x8) < (x266001.length : Int) then (if ((rd_T32 x266001 (rd x7 x8)).f1) = x6 then (laws_FnBagPlaces.l1 k x4 x5 x6 x7 (wrap64 (x8 + 1)) x266000 x266001) else (some false)) else (none)) else (none))))) else (none)) else (laws_FnBagPlaces.l0 k x4 (wrap64 (x5 + (x7.length : Int))) (wrap64 (x6 + 1)) x266000 x266001)
def laws_FnBagPlaces.j2 : Nat → Int → Bool → Bool → Int → List (S32) → Int → List (S32) → Option (Bool)
  | 0, _, _, _, _, _, _, _ => none
  | k + 1, x5, x11, x107, x266000, x266001, x290000, x290001 => if x107 = true then (some false) else (laws_FnBagPlaces.l2 k x5 x11 0 0 x266000 x266001 x290000 x290001)
def laws_FnBagPlaces.l2 : Nat → Int → Bool → Int → Int → Int → List (S32) → Int → List (S32) → Option (Bool)
  | 0, _, _, _, _, _, _, _, _ => none
  | k + 1, x5, x11, x12, x13, x266000, x266001, x290000, x290001 => if x13 < (x266001.length : Int) then (laws_FnBagPlaces.j4 k x5 x11 x12 x13 (decide (x12 < (x290001.length : Int))) x266000 x266001 x290000 x290001) else (laws_FnBagPlaces.j4 k x5 x11 x12 x13 false x266000 x266001 x290000 x290001)
def laws_FnBagPlaces.j4 : Nat → Int → Bool → Int → Int → Bool → Int → List (S32) → Int → List (S32) → Option (Bool)
  | 0, _, _, _, _, _, _, _, _, _ => none
  | k + 1, x5, x11, x12, x13, x119, x266000, x266001, x290000, x290001 => if x119 = true then (if 0 ≤ x13 then (if x13 < (x266001.length : Int) then (if 0 ≤ x12 then (if x12 < (x290001.length : Int) then (if (((rd_T32 x266001 x13).f0) == ((rd_T32 x290001 x12).f0) && (((rd_T32 x266001 x13).f1) == ((rd_T32 x290001 x12).f1) && ((((rd_T32 x266001 x13).f2).toList) == (((rd_T32 x290001 x12).f2).toList)))) = true then (laws_FnBagPlaces.l2 k x5 x11 (wrap64 (x12 + 1)) (wrap64 (x13 + 1)) x266000 x266001 x290000 x290001) else (laws_FnBagPlaces.l2 k x5 x11 x12 (wrap64 (x13 + 1)) x266000 x266001 x290000 x290001)) else (none)) else (none)) else (none)) else (none)) else (if x12 = (x290001.length : Int) then ((laws_ifInt.f x11 1).bind fun t293 => (some ((x290001.length : Int) == (wrap64 (x5 - t293))))) else (some false))
end
def laws_FnBagPlaces.f (k : Nat) (l0 : List Int) : Option (Bool) := if (l0.length : Int) > 1048576 then (some true) else ((spec_DrawBagTake.f k l0).bind fun bt260 => ((spec_BagOk.f k bt260.1 bt260.2.1).bind fun t266 => (if t266 = true then (laws_FnBagPlaces.l0 k bt260.2.2 0 0 bt260.1 bt260.2.1) else ((impl_BagFor.f k bt260.1 bt260.2.1 0).bind fun t267 => (some ((t267.length : Int) == 0))))))
/-! ### spec_DrawBagSend: function 12 -/
def spec_DrawBagSend.f (k : Nat) (l0 : List Int) : Option (Int × (List (S32)) × Int × Int × ByteArray) := (spec_l1Open.f l0).bind fun bt296 => ((spec_l6Bag.f k bt296.1 bt296.2).bind fun bt299 => ((spec_l6Letter.f k bt296.1 bt299.2.2).bind fun bt305 => (some (bt299.1, bt299.2.1, bt305.1, bt305.2.1, bt305.2.2.1))))
/-! ### impl_BagSend: function 13 -/
def impl_BagSend.j0 : Nat → Bool → Int → List (S32) → Int → Int → ByteArray → Option (Int × (List (S32)) × Bool)
  | 0, _, _, _, _, _, _ => none
  | k + 1, x13, x310000, x310001, x311000, x311001, x311002 => if x13 = true then (some (0, ([] : List (S32)), false)) else (if (x310001.length : Int) ≥ x310000 then ((impl_bagCopy.f x310000 x310001).bind fun bt314 => (some (bt314.1, bt314.2, false))) else ((impl_Letter.f x310001).bind fun t318 => ((some (([(⟨x311000, x311001, x311002⟩ : S32)] : List (S32)) : List (S32))).bind fun y321 => (if t318.length + y321.length < 4398046511104 then ((impl_bagCopy.f x310000 (t318 ++ y321)).bind fun bt327 => (some (bt327.1, bt327.2, true))) else (none)))))
def impl_BagSend.f (k : Nat) (a0_0 : Int) (l0_1 : List (S32)) (a1_0 : Int) (a1_1 : Int) (a1_2 : ByteArray) : Option (Int × (List (S32)) × Bool) := (impl_BagOk.f k a0_0 l0_1).bind fun t312 => (if t312 = true then ((impl_LetterOk.f a1_0 a1_1 a1_2).bind fun t313 => (impl_BagSend.j0 k (!t313) a0_0 l0_1 a1_0 a1_1 a1_2)) else (impl_BagSend.j0 k true a0_0 l0_1 a1_0 a1_1 a1_2))
/-! ### spec_l6Copy: function 40 -/
def spec_l6Copy.l0 : Nat → Int → Int → List (S32) → Int → List (S32) → Option (Int × (List (S32)))
  | 0, _, _, _, _, _ => none
  | k + 1, x4, x332000, x332001, x334000, x334001 => if x4 < (x332001.length : Int) then (if 0 ≤ x4 then (if x334001.length < 4398046511104 then (spec_l6Copy.l0 k (wrap64 (x4 + 1)) x332000 x332001 x334000 (x334001 ++ [(⟨(rd_T32 x332001 x4).f0, (rd_T32 x332001 x4).f1, (rd_T32 x332001 x4).f2⟩ : S32)])) else (none)) else (none)) else (some (x334000, x334001))
def spec_l6Copy.f (k : Nat) (a0_0 : Int) (l0_1 : List (S32)) : Option (Int × (List (S32))) := spec_l6Copy.l0 k 0 a0_0 l0_1 a0_0 ([] : List (S32))
/-! ### spec_BagSend: function 14 -/
def spec_BagSend.j0 : Nat → Bool → Int → List (S32) → Int → Int → ByteArray → Option (Int × (List (S32)) × Bool)
  | 0, _, _, _, _, _, _ => none
  | k + 1, x14, x339000, x339001, x340000, x340001, x340002 => if x14 = true then (some (0, ([] : List (S32)), false)) else ((spec_l6Copy.f k x339000 x339001).bind fun bt343 => (if (bt343.2.length : Int) ≥ bt343.1 then (some (bt343.1, bt343.2, false)) else (if bt343.2.length < 4398046511104 then (some (bt343.1, (bt343.2 ++ [(⟨x340000, x340001, x340002⟩ : S32)]), true)) else (none))))
def spec_BagSend.f (k : Nat) (a0_0 : Int) (l0_1 : List (S32)) (a1_0 : Int) (a1_1 : Int) (a1_2 : ByteArray) : Option (Int × (List (S32)) × Bool) := (spec_BagOk.f k a0_0 l0_1).bind fun t341 => (if t341 = true then ((spec_LetterOk.f a1_0 a1_1 a1_2).bind fun t342 => (spec_BagSend.j0 k (!t342) a0_0 l0_1 a1_0 a1_1 a1_2)) else (spec_BagSend.j0 k true a0_0 l0_1 a1_0 a1_1 a1_2))
/-! ### laws_at: function 15 -/
def laws_at.f (l0 : List Int) (a1 : Int) : Option (Int) := if (l0.length : Int) = 0 then (some ((wrap64 (a1 * 37)) % 256)) else (if a1 < (l0.length : Int) then (if 0 ≤ a1 then (some (rd l0 a1)) else (none)) else (if 0 ≤ (Int.tmod a1 (l0.length : Int)) then (if (Int.tmod a1 (l0.length : Int)) < (l0.length : Int) then (if 0 ≤ (Int.tmod (wrap64 ((wrap64 (a1 * 5)) + 1)) (l0.length : Int)) then (if (Int.tmod (wrap64 ((wrap64 (a1 * 5)) + 1)) (l0.length : Int)) < (l0.length : Int) then (some (((((((rd l0 (Int.tmod a1 (l0.length : Int))) * 31) % 256) + (rd l0 (Int.tmod (wrap64 ((wrap64 (a1 * 5)) + 1)) (l0.length : Int)))) % 256) + ((a1) % 256)) % 256)) else (none)) else (none)) else (none)) else (none)))
/-! ### impl_BagDouble: function 16 -/
def impl_BagDouble.j0 : Nat → Int → Bool → Int → List (S32) → Option (Int × (List (S32)) × Bool)
  | 0, _, _, _, _ => none
  | k + 1, x1, x21, x355000, x355001 => if x21 = true then ((impl_bagCopy.f x355000 x355001).bind fun bt357 => (some (bt357.1, bt357.2, false))) else ((impl_Letter.f x355001).bind fun t361 => ((impl_modulo.f x1 (x355001.length : Int)).bind fun t364 => (if 0 ≤ t364 then (if t364 < (x355001.length : Int) then (if t361.length < 4398046511104 then ((impl_bagCopy.f x355000 (t361 ++ [(⟨(rd_T32 x355001 t364).f0, (rd_T32 x355001 t364).f1, (rd_T32 x355001 t364).f2⟩ : S32)])).bind fun bt369 => (some (bt369.1, bt369.2, true))) else (none)) else (none)) else (none))))
def impl_BagDouble.f (k : Nat) (a0_0 : Int) (l0_1 : List (S32)) (a1 : Int) : Option (Int × (List (S32)) × Bool) := (impl_BagOk.f k a0_0 l0_1).bind fun t356 => (if t356 = true then (if (l0_1.length : Int) = 0 then (impl_BagDouble.j0 k a1 true a0_0 l0_1) else (impl_BagDouble.j0 k a1 (decide ((l0_1.length : Int) ≥ a0_0)) a0_0 l0_1)) else (some (0, ([] : List (S32)), false)))
/-! ### laws_FnBagKept: function 4 -/
mutual
def laws_FnBagKept.j0 : Nat → Bool → Int → Bool → Bool → Bool → Int → Int → ByteArray → Int → List (S32) → Int → List (S32) → Int → List (S32) → Option (Bool)
  | 0, _, _, _, _, _, _, _, _, _, _, _, _, _, _ => none
  | k + 1, x6, x9, x12, x15, x86, x382000, x382001, x382002, x388000, x388001, x402000, x402001, x411000, x411001 => if x86 = true then (some false) else ((spec_LetterOk.f x382000 x382001 x382002).bind fun t412 => (if t412 = true then ((spec_BagOk.f k x388000 x388001).bind fun t413 => (if t413 = true then ((laws_ifInt.f x6 1).bind fun t414 => (laws_FnBagKept.j1 k x9 x12 x15 ((x388001.length : Int) != (wrap64 (x9 + t414))) x402000 x402001 x411000 x411001)) else (laws_FnBagKept.j1 k x9 x12 x15 true x402000 x402001 x411000 x411001))) else (laws_FnBagKept.j1 k x9 x12 x15 false x402000 x402001 x411000 x411001)))
def laws_FnBagKept.j1 : Nat → Int → Bool → Bool → Bool → Int → List (S32) → Int → List (S32) → Option (Bool)
  | 0, _, _, _, _, _, _, _, _ => none
  | k + 1, x9, x12, x15, x103, x402000, x402001, x411000, x411001 => if x103 = true then (some false) else ((spec_BagOk.f k x402000 x402001).bind fun t415 => (if t415 = true then ((spec_BagOk.f k x411000 x411001).bind fun t416 => (if t416 = true then ((laws_ifInt.f x12 1).bind fun t417 => (if (x402001.length : Int) = (wrap64 (x9 + t417)) then ((laws_ifInt.f x15 1).bind fun t418 => (some ((x411001.length : Int) == (wrap64 (x9 - t418))))) else (some false))) else (some false))) else (some false)))
end
def laws_FnBagKept.f (k : Nat) (l0 : List Int) : Option (Bool) := if (l0.length : Int) > 1048576 then (some true) else ((spec_DrawBagSend.f k l0).bind fun bt373 => ((impl_BagSend.f k bt373.1 bt373.2.1 bt373.2.2.1 bt373.2.2.2.1 bt373.2.2.2.2).bind fun bt382 => ((spec_BagSend.f k bt373.1 bt373.2.1 bt373.2.2.1 bt373.2.2.2.1 bt373.2.2.2.2).bind fun bt388 => (if (bt382.2.2 != bt388.2.2) = true then (some false) else ((spec_BagOk.f k bt373.1 bt373.2.1).bind fun t394 => (if t394 = true then ((laws_at.f l0 7).bind fun t395 => ((impl_BagDouble.f k bt373.1 bt373.2.1 (wrap64 ((wrap64 (t395)) - 100))).bind fun bt396 => ((impl_BagTake.f k bt373.1 bt373.2.1 (wrap64 ((wrap64 (t395)) - 100))).bind fun bt402 => (if (bt373.2.1.length : Int) > 0 then (if (bt396.2.2 != (decide ((bt373.2.1.length : Int) < bt373.1))) = true then (laws_FnBagKept.j0 k bt382.2.2 (bt373.2.1.length : Int) bt396.2.2 bt402.2.2.2.2.2 true bt373.2.2.1 bt373.2.2.2.1 bt373.2.2.2.2 bt382.1 bt382.2.1 bt396.1 bt396.2.1 bt402.1 bt402.2.1) else (laws_FnBagKept.j0 k bt382.2.2 (bt373.2.1.length : Int) bt396.2.2 bt402.2.2.2.2.2 (bt402.2.2.2.2.2 != (decide ((bt373.2.1.length : Int) > 0))) bt373.2.2.1 bt373.2.2.2.1 bt373.2.2.2.2 bt382.1 bt382.2.1 bt396.1 bt396.2.1 bt402.1 bt402.2.1)) else (if (bt396.2.2 != false) = true then (laws_FnBagKept.j0 k bt382.2.2 (bt373.2.1.length : Int) bt396.2.2 bt402.2.2.2.2.2 true bt373.2.2.1 bt373.2.2.2.1 bt373.2.2.2.2 bt382.1 bt382.2.1 bt396.1 bt396.2.1 bt402.1 bt402.2.1) else (laws_FnBagKept.j0 k bt382.2.2 (bt373.2.1.length : Int) bt396.2.2 bt402.2.2.2.2.2 (bt402.2.2.2.2.2 != (decide ((bt373.2.1.length : Int) > 0))) bt373.2.2.1 bt373.2.2.2.1 bt373.2.2.2.2 bt382.1 bt382.2.1 bt396.1 bt396.2.1 bt402.1 bt402.2.1)))))) else (if (bt382.2.1.length : Int) = 0 then (some (bt382.1 == 0)) else (some false))))))))
/-! ### laws_szLetter: function 50 -/
def laws_szLetter.f (a0_0 : Int) (a0_1 : Int) (a0_2 : ByteArray) (a1 : Int) : Option (Int) := if (wrap64 (a1 - (a0_2.size : Int))) < 0 then (some (-1)) else (some (wrap64 (a1 - (a0_2.size : Int))))
/-! ### laws_szLetterS: function 41 -/
def laws_szLetterS.l0 : Nat → List (S74) → Int → Int → Option (Int)
  | 0, _, _, _ => none
  | k + 1, x0, x1, x5 => if x5 < (x0.length : Int) then (if 0 ≤ x5 then ((laws_szLetter.f ((rd_T74 x0 x5).f0) ((rd_T74 x0 x5).f1) ((rd_T74 x0 x5).f2) x1).bind fun t421 => (if t421 < 0 then (some (-1)) else (laws_szLetterS.l0 k x0 t421 (wrap64 (x5 + 1))))) else (none)) else (some x1)
def laws_szLetterS.f (k : Nat) (l0 : List (S74)) (a1 : Int) : Option (Int) := if (wrap64 (a1 - (l0.length : Int))) < 0 then (some (-1)) else (laws_szLetterS.l0 k l0 (wrap64 (a1 - (l0.length : Int))) 0)
/-! ### laws_szBag: function 18 -/
def laws_szBag.f (k : Nat) (a0_0 : Int) (l0_1 : List (S74)) (a1 : Int) : Option (Int) := (laws_szLetterS.f k l0_1 a1).bind fun t423 => (if t423 < 0 then (some (-1)) else (some t423))
/-! ### spec_BagFor: function 19 -/
def spec_BagFor.l0 : Nat → Int → List Int → Int → Int → List (S32) → Option (List Int)
  | 0, _, _, _, _, _ => none
  | k + 1, x1, x5, x6, x425000, x425001 => if x6 < (x425001.length : Int) then (if 0 ≤ x6 then (if ((rd_T32 x425001 x6).f1) = x1 then (if x5.length < 17592186044416 then (spec_BagFor.l0 k x1 (x5 ++ [x6]) (wrap64 (x6 + 1)) x425000 x425001) else (none)) else (spec_BagFor.l0 k x1 x5 (wrap64 (x6 + 1)) x425000 x425001)) else (none)) else (some x5)
def spec_BagFor.f (k : Nat) (a0_0 : Int) (l0_1 : List (S32)) (a1 : Int) : Option (List Int) := (some (([] : List Int) : List Int)).bind fun y425 => ((spec_BagOk.f k a0_0 l0_1).bind fun t428 => (if t428 = true then (spec_BagFor.l0 k a1 y425 0 a0_0 l0_1) else (some y425)))
/-! ### laws_toLetter: function 51 -/
def laws_toLetter.f (a0_0 : Int) (a0_1 : Int) (a0_2 : ByteArray) : Option (Int × Int × ByteArray) := some (a0_0, a0_1, a0_2)
/-! ### laws_toLetterS: function 42 -/
def laws_toLetterS.l0 : Nat → List (S74) → List (S32) → Int → Option ((List (S32)))
  | 0, _, _, _ => none
  | k + 1, x0, x3, x4 => if x4 < (x0.length : Int) then (if 0 ≤ x4 then ((laws_toLetter.f ((rd_T74 x0 x4).f0) ((rd_T74 x0 x4).f1) ((rd_T74 x0 x4).f2)).bind fun bt440 => (if x4 < (x3.length : Int) then (laws_toLetterS.l0 k x0 (x3.set (x4 : Int).toNat (⟨bt440.1, bt440.2.1, bt440.2.2⟩ : S32)) (wrap64 (x4 + 1))) else (none))) else (none)) else (some x3)
def laws_toLetterS.f (k : Nat) (l0 : List (S74)) : Option ((List (S32))) := if 0 ≤ (l0.length : Int) then (if ((l0.length : Int) : Int).toNat ≤ 8796093022208 then (laws_toLetterS.l0 k l0 (List.replicate ((l0.length : Int) : Int).toNat z32) 0) else (none)) else (none)
/-! ### laws_toBag: function 20 -/
def laws_toBag.f (k : Nat) (a0_0 : Int) (l0_1 : List (S74)) : Option (Int × (List (S32))) := (laws_toLetterS.f k l0_1).bind fun t447 => (some (a0_0, t447))
/-! ### laws_eqIntS: function 21 -/
def laws_eqIntS.l0 : Nat → List Int → List Int → Int → Option (Bool)
  | 0, _, _, _ => none
  | k + 1, x0, x1, x5 => if x5 < (x0.length : Int) then (if 0 ≤ x5 then (if x5 < (x1.length : Int) then (if (rd x0 x5) = (rd x1 x5) then (laws_eqIntS.l0 k x0 x1 (wrap64 (x5 + 1))) else (some false)) else (none)) else (none)) else (some true)
def laws_eqIntS.f (k : Nat) (l0 : List Int) (l1 : List Int) : Option (Bool) := if (l0.length : Int) = (l1.length : Int) then (laws_eqIntS.l0 k l0 l1 0) else (some false)
/-! ### laws_eqLetter: function 52 -/
def laws_eqLetter.f (a0_0 : Int) (a0_1 : Int) (a0_2 : ByteArray) (a1_0 : Int) (a1_1 : Int) (a1_2 : ByteArray) : Option (Bool) := if a0_0 = a1_0 then (if a0_1 = a1_1 then (if a0_2.toList = a1_2.toList then (some true) else (some false)) else (some false)) else (some false)
/-! ### laws_eqLetterS: function 43 -/
def laws_eqLetterS.l0 : Nat → List (S32) → List (S32) → Int → Option (Bool)
  | 0, _, _, _ => none
  | k + 1, x0, x1, x5 => if x5 < (x0.length : Int) then (if 0 ≤ x5 then (if x5 < (x1.length : Int) then ((laws_eqLetter.f ((rd_T32 x0 x5).f0) ((rd_T32 x0 x5).f1) ((rd_T32 x0 x5).f2) ((rd_T32 x1 x5).f0) ((rd_T32 x1 x5).f1) ((rd_T32 x1 x5).f2)).bind fun t456 => (if t456 = true then (laws_eqLetterS.l0 k x0 x1 (wrap64 (x5 + 1))) else (some false))) else (none)) else (none)) else (some true)
def laws_eqLetterS.f (k : Nat) (l0 : List (S32)) (l1 : List (S32)) : Option (Bool) := if (l0.length : Int) = (l1.length : Int) then (laws_eqLetterS.l0 k l0 l1 0) else (some false)
/-! ### laws_eqBag: function 22 -/
def laws_eqBag.f (k : Nat) (a0_0 : Int) (l0_1 : List (S32)) (a1_0 : Int) (l1_1 : List (S32)) : Option (Bool) := if a0_0 = a1_0 then ((laws_eqLetterS.f k l0_1 l1_1).bind fun t459 => (if t459 = true then (some true) else (some false))) else (some false)
/-! ### laws_markText: function 53 -/
def laws_markText.l0 : Nat → Int → ByteArray → Option (ByteArray)
  | 0, _, _ => none
  | k + 1, x0, x3 => if x0 > 0 then ((some (([(wrap64 (48 + (Int.tmod x0 10))) % 256] : List Int) : List Int)).bind fun y460 => (if (strOfNums y460).size + x3.size ≤ 9223372036854775807 then (laws_markText.l0 k (wrap64 (Int.tdiv x0 10)) ((strOfNums y460) ++ x3)) else (none))) else (if 1 + x3.size ≤ 9223372036854775807 then (some ((⟨#[109]⟩ : ByteArray) ++ x3)) else (none))
def laws_markText.f (k : Nat) (a0 : Int) : Option (ByteArray) := if a0 ≤ 0 then (some (⟨#[109, 48]⟩ : ByteArray)) else (laws_markText.l0 k a0 (⟨#[]⟩ : ByteArray))
/-! ### laws_markLetterS: function 44 -/
def laws_markLetterS.l0 : Nat → List (S32) → Int → Int → Option (Int × (List (S32)))
  | 0, _, _, _ => none
  | k + 1, x0, x1, x5 => if x5 < (x0.length : Int) then (if 0 ≤ x5 then ((some (x0.set (x5 : Int).toNat (⟨x1, (rd_T32 x0 x5).f1, (rd_T32 x0 x5).f2⟩ : S32) : List (S32))).bind fun y463 => ((some (y463.set (x5 : Int).toNat (⟨(rd_T32 y463 x5).f0, wrap64 (x1 + 1), (rd_T32 y463 x5).f2⟩ : S32) : List (S32))).bind fun y464 => ((laws_markText.f k (wrap64 ((wrap64 (x1 + 1)) + 1))).bind fun t465 => (laws_markLetterS.l0 k (y464.set (x5 : Int).toNat (⟨(rd_T32 y464 x5).f0, (rd_T32 y464 x5).f1, t465⟩ : S32)) (wrap64 ((wrap64 ((wrap64 (x1 + 1)) + 1)) + 1)) (wrap64 (x5 + 1)))))) else (none)) else (some (x1, x0))
def laws_markLetterS.f (k : Nat) (l0 : List (S32)) (a1 : Int) : Option (Int × (List (S32))) := laws_markLetterS.l0 k l0 a1 0
/-! ### laws_markBag: function 23 -/
def laws_markBag.f (k : Nat) (a0_0 : Int) (l0_1 : List (S32)) (a1 : Int) : Option (Int × (List (S32))) := (laws_markLetterS.f k l0_1 a1).bind fun bt468 => (some (bt468.1, bt468.2))
/-! ### laws_markIntS: function 24 -/
def laws_markIntS.l0 : Nat → List Int → Int → Int → Option (Int × List Int)
  | 0, _, _, _ => none
  | k + 1, x0, x1, x5 => if x5 < (x0.length : Int) then (if 0 ≤ x5 then (laws_markIntS.l0 k (x0.set (x5 : Int).toNat x1) (wrap64 (x1 + 1)) (wrap64 (x5 + 1))) else (none)) else (some (x1, x0))
def laws_markIntS.f (k : Nat) (l0 : List Int) (a1 : Int) : Option (Int × List Int) := laws_markIntS.l0 k l0 a1 0
/-! ### laws_heldIntS: function 25 -/
def laws_heldIntS.l0 : Nat → List Int → Int → Int → Option (Int)
  | 0, _, _, _ => none
  | k + 1, x0, x1, x5 => if x5 < (x0.length : Int) then (if 0 ≤ x5 then (if (rd x0 x5) = x1 then (laws_heldIntS.l0 k x0 (wrap64 (x1 + 1)) (wrap64 (x5 + 1))) else (some (-1))) else (none)) else (some x1)
def laws_heldIntS.f (k : Nat) (l0 : List Int) (a1 : Int) : Option (Int) := laws_heldIntS.l0 k l0 a1 0
/-! ### laws_FnExactBagFor: function 5 -/
def laws_FnExactBagFor.j0 : Nat → Int → List Int → List Int → Bool → Int → List (S74) → Option (Bool)
  | 0, _, _, _, _, _, _ => none
  | k + 1, x1, x6, x8, x46, x473000, x473001 => if x46 = true then (some false) else ((laws_markIntS.f k x8 1).bind fun bt498 => ((laws_heldIntS.f k bt498.2 1).bind fun t500 => (if t500 < 0 then (some false) else (if t500 = bt498.1 then ((laws_toBag.f k x473000 x473001).bind fun bt501 => ((impl_BagFor.f k bt501.1 bt501.2 x1).bind fun t505 => ((laws_eqIntS.f k t505 x6).bind fun t508 => (if t508 = true then ((laws_heldIntS.f k bt498.2 1).bind fun t509 => (if t509 < 0 then (some false) else (if t509 = bt498.1 then (some true) else (some false)))) else (some false))))) else (some false)))))
def laws_FnExactBagFor.f (k : Nat) (a0_0 : Int) (l0_1 : List (S74)) (a1 : Int) : Option (Bool) := (laws_szBag.f k a0_0 l0_1 1048576).bind fun t473 => (if t473 < 0 then (some true) else ((laws_toBag.f k a0_0 l0_1).bind fun bt474 => ((spec_BagFor.f k bt474.1 bt474.2 a1).bind fun t478 => ((laws_toBag.f k a0_0 l0_1).bind fun bt481 => ((impl_BagFor.f k bt481.1 bt481.2 a1).bind fun t486 => ((laws_eqIntS.f k t486 t478).bind fun t489 => (if t489 = true then ((laws_toBag.f k a0_0 l0_1).bind fun bt490 => ((laws_eqBag.f k bt481.1 bt481.2 bt490.1 bt490.2).bind fun t494 => (if t494 = true then ((laws_markBag.f k bt481.1 bt481.2 1).bind fun bt495 => (if bt495.1 < 0 then (laws_FnExactBagFor.j0 k a1 t478 t486 true a0_0 l0_1) else ((laws_eqIntS.f k t486 t478).bind fun t497 => (laws_FnExactBagFor.j0 k a1 t478 t486 (!t497) a0_0 l0_1)))) else (some false)))) else (some false))))))))
/-! ### laws_sameBag: function 26 -/
mutual
def laws_sameBag.j0 : Nat → Bool → Int → List (S32) → Int → List (S32) → Option (Bool)
  | 0, _, _, _, _, _ => none
  | k + 1, x19, x511000, x511001, x512000, x512001 => if x19 = true then (some false) else (laws_sameBag.l0 k 0 x511000 x511001 x512000 x512001)
def laws_sameBag.l0 : Nat → Int → Int → List (S32) → Int → List (S32) → Option (Bool)
  | 0, _, _, _, _, _ => none
  | k + 1, x5, x511000, x511001, x512000, x512001 => if x5 < (x511001.length : Int) then (if 0 ≤ x5 then (if x5 < (x512001.length : Int) then (if (!(((rd_T32 x511001 x5).f0) == ((rd_T32 x512001 x5).f0)) || (!(((rd_T32 x511001 x5).f1) == ((rd_T32 x512001 x5).f1)) || (!((((rd_T32 x511001 x5).f2).toList) == (((rd_T32 x512001 x5).f2).toList))))) = true then (some false) else (laws_sameBag.l0 k (wrap64 (x5 + 1)) x511000 x511001 x512000 x512001)) else (none)) else (none)) else (some true)
end
def laws_sameBag.f (k : Nat) (a0_0 : Int) (l0_1 : List (S32)) (a1_0 : Int) (l1_1 : List (S32)) : Option (Bool) := if a0_0 = a1_0 then (laws_sameBag.j0 k ((l0_1.length : Int) != (l1_1.length : Int)) a0_0 l0_1 a1_0 l1_1) else (laws_sameBag.j0 k true a0_0 l0_1 a1_0 l1_1)
/-! ### spec_l6Mod: function 45 -/
def spec_l6Mod.f (a0 : Int) (a1 : Int) : Option (Int) := if a1 = 0 then (none) else (some (Int.tmod (wrap64 ((Int.tmod a0 a1) + a1)) a1))
/-! ### spec_BagDouble: function 27 -/
def spec_BagDouble.f (k : Nat) (a0_0 : Int) (l0_1 : List (S32)) (a1 : Int) : Option (Int × (List (S32)) × Bool) := (spec_BagOk.f k a0_0 l0_1).bind fun t516 => (if t516 = true then ((spec_l6Copy.f k a0_0 l0_1).bind fun bt517 => (if (bt517.2.length : Int) = 0 then (some (bt517.1, bt517.2, false)) else (if (bt517.2.length : Int) ≥ bt517.1 then (some (bt517.1, bt517.2, false)) else ((spec_l6Mod.f a1 (bt517.2.length : Int)).bind fun t522 => (if 0 ≤ t522 then (if t522 < (bt517.2.length : Int) then (if bt517.2.length < 4398046511104 then (some (bt517.1, (bt517.2 ++ [(⟨(rd_T32 bt517.2 t522).f0, (rd_T32 bt517.2 t522).f1, (rd_T32 bt517.2 t522).f2⟩ : S32)]), true)) else (none)) else (none)) else (none)))))) else (some (0, ([] : List (S32)), false)))
/-! ### spec_BagTake: function 28 -/
def spec_BagTake.l0 : Nat → Int → Int → Int → List (S32) → Int → List (S32) → Option (Int × (List (S32)) × Int × Int × ByteArray × Bool)
  | 0, _, _, _, _, _, _ => none
  | k + 1, x1, x8, x528000, x528001, x537000, x537001 => if x8 < (x528001.length : Int) then (if x8 = x1 then (spec_BagTake.l0 k x1 (wrap64 (x8 + 1)) x528000 x528001 x537000 x537001) else (if 0 ≤ x8 then (if x537001.length < 4398046511104 then (spec_BagTake.l0 k x1 (wrap64 (x8 + 1)) x528000 x528001 x537000 (x537001 ++ [(⟨(rd_T32 x528001 x8).f0, (rd_T32 x528001 x8).f1, (rd_T32 x528001 x8).f2⟩ : S32)])) else (none)) else (none))) else (if 0 ≤ x1 then (if x1 < (x528001.length : Int) then (some (x537000, x537001, (rd_T32 x528001 x1).f0, (rd_T32 x528001 x1).f1, (rd_T32 x528001 x1).f2, true)) else (none)) else (none))
def spec_BagTake.f (k : Nat) (a0_0 : Int) (l0_1 : List (S32)) (a1 : Int) : Option (Int × (List (S32)) × Int × Int × ByteArray × Bool) := (spec_BagOk.f k a0_0 l0_1).bind fun t530 => (if t530 = true then (if (l0_1.length : Int) = 0 then ((spec_l6Copy.f k a0_0 l0_1).bind fun bt531 => (some (bt531.1, bt531.2, 0, 0, (⟨#[]⟩ : ByteArray), false))) else ((spec_l6Mod.f a1 (l0_1.length : Int)).bind fun t535 => (spec_BagTake.l0 k t535 0 a0_0 l0_1 a0_0 ([] : List (S32))))) else (some (0, ([] : List (S32)), 0, 0, (⟨#[]⟩ : ByteArray), false)))
/-! ### laws_FnBagBack: function 6 -/
def laws_FnBagBack.j0 : Nat → List Int → Int → List (S32) → Option (Bool)
  | 0, _, _, _ => none
  | k + 1, x0, x550000, x550001 => (laws_at.f x0 7).bind fun t574 => ((impl_BagDouble.f k x550000 x550001 (wrap64 ((wrap64 (t574)) - 100))).bind fun bt575 => ((spec_BagDouble.f k x550000 x550001 (wrap64 ((wrap64 (t574)) - 100))).bind fun bt581 => (if (bt575.2.2 != bt581.2.2) = true then (some false) else (if bt575.2.2 = true then ((impl_BagTake.f k bt575.1 bt575.2.1 (-1)).bind fun bt587 => ((spec_BagTake.f k x550000 x550001 (wrap64 ((wrap64 (t574)) - 100))).bind fun bt597 => (if bt587.2.2.2.2.2 = true then (if (bt587.2.2.1 == bt597.2.2.1 && (bt587.2.2.2.1 == bt597.2.2.2.1 && (bt587.2.2.2.2.1.toList == bt597.2.2.2.2.1.toList))) = true then ((laws_sameBag.f k bt587.1 bt587.2.1 x550000 x550001).bind fun t607 => (some t607)) else (some false)) else (some false)))) else (some true)))))
def laws_FnBagBack.f (k : Nat) (l0 : List Int) : Option (Bool) := if (l0.length : Int) > 1048576 then (some true) else ((spec_DrawBagSend.f k l0).bind fun bt542 => ((impl_BagSend.f k bt542.1 bt542.2.1 bt542.2.2.1 bt542.2.2.2.1 bt542.2.2.2.2).bind fun bt551 => ((spec_BagSend.f k bt542.1 bt542.2.1 bt542.2.2.1 bt542.2.2.2.1 bt542.2.2.2.2).bind fun bt557 => (if (bt551.2.2 != bt557.2.2) = true then (some false) else (if bt551.2.2 = true then ((impl_BagTake.f k bt551.1 bt551.2.1 (bt542.2.1.length : Int)).bind fun bt563 => (if bt563.2.2.2.2.2 = true then (if (!(bt563.2.2.1 == bt542.2.2.1) || (!(bt563.2.2.2.1 == bt542.2.2.2.1) || (!(bt563.2.2.2.2.1.toList == bt542.2.2.2.2.toList)))) = true then (some false) else ((laws_sameBag.f k bt563.1 bt563.2.1 bt542.1 bt542.2.1).bind fun t573 => (if t573 = true then (laws_FnBagBack.j0 k l0 bt542.1 bt542.2.1) else (some false)))) else (some false))) else (laws_FnBagBack.j0 k l0 bt542.1 bt542.2.1))))))
end Go.Proofs.Ytobfeplphdnhfaa.Q

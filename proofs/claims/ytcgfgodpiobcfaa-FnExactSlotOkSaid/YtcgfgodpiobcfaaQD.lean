/- What functions of the given program compute, as Lean functions over numbers and lists; written by a program of this session's. No condition. -/
import Derived.Test.YtcgfgodpiobcfaaProg
import Derived.Below
import Derived.Deep.Draws
import Derived.Deep.AppendLies
import Derived.Maps.AppendAt
import Derived.OwnWalk
import Derived.Laws.BytesArg
import Derived.Laws.MakeOwn
import Derived.Laws.OwnMore
import Derived.Deep.OwnRows
import Derived.Tactics
import Derived.Lib.ConvBytes
import Derived.Laws.Slices
import Derived.WalkKit
import Derived.KernelRfl
import Derived.RowKit3
import Derived.Deep.LoopGhost
import Derived.Deep.QuietTactic
import Derived.BigQuiet
import Derived.WideLaws
import Derived.Deep.DeepCutAuto
import Derived.Deep.CutBlock
import Derived.Deep.RegionHeld3
import Derived.Laws.Rows
import Derived.Lib.AppendStr
import Derived.ArgAppend
import Derived.Laws.IdiomCopy
import Derived.OrdersHeld
import Derived.Laws.BitsLemmas
import Derived.RowKit
import Derived.StillTailTactics
import Derived.Test.YtcgfgodpiobcfaaWWords
import Derived.Test.YtcgfgodpiobcfaaWLast
import Derived.Test.YtcgfgodpiobcfaaWTab
import Derived.Test.YtcgfgodpiobcfaaWFour
import Derived.Test.YtcgfgodpiobcfaaWQPut
import Derived.Test.YtcgfgodpiobcfaaWApart
import Derived.Test.YtcgfgodpiobcfaaWArr
import Derived.Test.YtcgfgodpiobcfaaWZeros
import Derived.Test.YtcgfgodpiobcfaaWFoot
import Derived.Test.YtcgfgodpiobcfaaWKept
import Derived.Test.YtcgfgodpiobcfaaWShare
import Derived.Test.YtcgfgodpiobcfaaWN
import Derived.Test.YtcgfgodpiobcfaaWFootNe
import Derived.Test.YtcgfgodpiobcfaaWAt
import Derived.Test.YtcgfgodpiobcfaaWEqStruct
import Derived.Test.YtcgfgodpiobcfaaWRepsOne
import Derived.Test.YtcgfgodpiobcfaaWInv
import Derived.Test.YtcgfgodpiobcfaaWInvWords
import Derived.Test.YtcgfgodpiobcfaaWGuard
import Derived.Test.YtcgfgodpiobcfaaWNEv
import Derived.Test.YtcgfgodpiobcfaaWMore
import Derived.Test.YtcgfgodpiobcfaaWCopy
namespace Go.Proofs.Ytcgfgodpiobcfaa.Q
open Go.RowKit Go.Proofs.YtcgfgodpiobcfaaW.PrintWords Go.Proofs.YtcgfgodpiobcfaaW.PrintLast Go.Proofs.YtcgfgodpiobcfaaW.PrintMore
attribute [local go_sem] max2_int min2_int max_two min_two max_three min_three max_four min_four   -- for this text's walks alone
set_option linter.unusedVariables false
set_option linter.unusedSimpArgs false



def errW : Option Int → Value
  | none => .nilIface
  | some c => .iface 0 (.int .i64 c)
theorem errW_none : errW none = .nilIface := rfl
theorem errW_some (c : Int) : errW (some c) = .iface 0 (.int .i64 c) := rfl

theorem info3 : (Try.prog.info? 3).map (fun i => (i.zero, i.size, i.bytes)) = some (some (.int .i64 0), 1, 8) := by kernel_rfl
theorem info5 : (Try.prog.info? 5).map (fun i => (i.zero, i.size, i.bytes)) = some (some (.int .u8 0), 1, 1) := by kernel_rfl
theorem info92 : (Try.prog.info? 92).map (fun i => (i.zero, i.size, i.bytes)) = some (some (.agg #[(.int .i64 0), (.int .i64 0), (.int .u64 0)]), 3, 24) := by kernel_rfl
theorem info108 : (Try.prog.info? 108).map (fun i => (i.zero, i.size, i.bytes)) = some (some (.agg #[(.int .i64 0), (.int .i64 0), (.int .i64 0), (.int .u64 0), (.int .u64 0), (.int .u64 0), (.int .u64 0)]), 7, 56) := by kernel_rfl
-- the values' own types
/-! #### struct type 95 -/
structure S95 where
  f0 : Int
  f1 : Int
  f2 : Int
def z95 : S95 := ⟨(0 : Int), (0 : Int), (0 : Int)⟩
def k95 : Kd S95 := Kd.iso (Kd.pair (Kd.int .i64) (Kd.pair (Kd.int .i64) (Kd.int .u64))) (fun x : S95 => (x.f0, x.f1, x.f2))
theorem k95_open {w : World} {x : S95} {cs : List Value} (h : k95.K w x cs) : cs = [.int .i64 x.f0, .int .i64 x.f1, .int .u64 x.f2] := by
  obtain ⟨_, _, rfl, rfl, ⟨_, _, rfl, rfl, rfl⟩⟩ := h
  exact rfl
theorem k95_openM {w : World} {base : Nat} {ok : Nat → Prop} {x : S95} {cs : List Value} (h : k95.M w base ok x cs) : cs = [.int .i64 x.f0, .int .i64 x.f1, .int .u64 x.f2] := by
  obtain ⟨_, _, rfl, rfl, ⟨_, _, rfl, rfl, rfl⟩⟩ := h
  exact rfl
theorem k95_mk (w : World) (x : S95)  : k95.K w x [.int .i64 x.f0, .int .i64 x.f1, .int .u64 x.f2] := ⟨[.int .i64 x.f0], [.int .i64 x.f1, .int .u64 x.f2], rfl, rfl, ⟨[.int .i64 x.f1], [.int .u64 x.f2], rfl, rfl, rfl⟩⟩
theorem k95_mkM (w : World) (base : Nat) (ok : Nat → Prop) (x : S95)  : k95.M w base ok x [.int .i64 x.f0, .int .i64 x.f1, .int .u64 x.f2] := ⟨[.int .i64 x.f0], [.int .i64 x.f1, .int .u64 x.f2], rfl, rfl, ⟨[.int .i64 x.f1], [.int .u64 x.f2], rfl, rfl, rfl⟩⟩
def rd_T95 (xs : List S95) (i : Int) : S95 := xs.getD i.toNat z95
theorem at_T95 {w : World} {A : Option Addr} {n : Nat} {xs : List S95} (h : Kd.C k95 w A n xs) (i : Int) (h0 : 0 ≤ i) (h1 : i < n) : ∃ ad , A = some ad ∧ w.cell? (ad.add (i.toNat * 3)) = some (.int .i64 (rd_T95 xs i).f0) ∧ w.cell? ⟨(ad.add (i.toNat * 3)).block, (ad.add (i.toNat * 3)).off + 1, none⟩ = some (.int .i64 (rd_T95 xs i).f1) ∧ w.cell? ⟨(ad.add (i.toNat * 3)).block, (ad.add (i.toNat * 3)).off + 2, none⟩ = some (.int .u64 (rd_T95 xs i).f2) := by
  obtain ⟨ad, c, e, _, hK, hc0⟩ := Kd.C_get h z95 i h0 h1
  have hc : ∀ j u, c[j]? = some u → w.cell? (ad.add (i.toNat * 3 + j)) = some u := hc0
  obtain rfl := k95_open hK
  exact ⟨ad, e, hc 0 _ rfl, by rw [← add_field _ _ 1 (by omega)]; exact hc 1 _ rfl, by rw [← add_field _ _ 2 (by omega)]; exact hc 2 _ rfl⟩

/-! #### struct type 92 -/
structure S92 where
  f0 : Int
  f1 : Int
  f2 : Int
def z92 : S92 := ⟨(0 : Int), (0 : Int), (0 : Int)⟩
def k92 : Kd S92 := Kd.iso (Kd.pair (Kd.int .i64) (Kd.pair (Kd.int .i64) (Kd.int .u64))) (fun x : S92 => (x.f0, x.f1, x.f2))
theorem k92_open {w : World} {x : S92} {cs : List Value} (h : k92.K w x cs) : cs = [.int .i64 x.f0, .int .i64 x.f1, .int .u64 x.f2] := by
  obtain ⟨_, _, rfl, rfl, ⟨_, _, rfl, rfl, rfl⟩⟩ := h
  exact rfl
theorem k92_openM {w : World} {base : Nat} {ok : Nat → Prop} {x : S92} {cs : List Value} (h : k92.M w base ok x cs) : cs = [.int .i64 x.f0, .int .i64 x.f1, .int .u64 x.f2] := by
  obtain ⟨_, _, rfl, rfl, ⟨_, _, rfl, rfl, rfl⟩⟩ := h
  exact rfl
theorem k92_mk (w : World) (x : S92)  : k92.K w x [.int .i64 x.f0, .int .i64 x.f1, .int .u64 x.f2] := ⟨[.int .i64 x.f0], [.int .i64 x.f1, .int .u64 x.f2], rfl, rfl, ⟨[.int .i64 x.f1], [.int .u64 x.f2], rfl, rfl, rfl⟩⟩
theorem k92_mkM (w : World) (base : Nat) (ok : Nat → Prop) (x : S92)  : k92.M w base ok x [.int .i64 x.f0, .int .i64 x.f1, .int .u64 x.f2] := ⟨[.int .i64 x.f0], [.int .i64 x.f1, .int .u64 x.f2], rfl, rfl, ⟨[.int .i64 x.f1], [.int .u64 x.f2], rfl, rfl, rfl⟩⟩
def rd_T92 (xs : List S92) (i : Int) : S92 := xs.getD i.toNat z92
theorem at_T92 {w : World} {A : Option Addr} {n : Nat} {xs : List S92} (h : Kd.C k92 w A n xs) (i : Int) (h0 : 0 ≤ i) (h1 : i < n) : ∃ ad , A = some ad ∧ w.cell? (ad.add (i.toNat * 3)) = some (.int .i64 (rd_T92 xs i).f0) ∧ w.cell? ⟨(ad.add (i.toNat * 3)).block, (ad.add (i.toNat * 3)).off + 1, none⟩ = some (.int .i64 (rd_T92 xs i).f1) ∧ w.cell? ⟨(ad.add (i.toNat * 3)).block, (ad.add (i.toNat * 3)).off + 2, none⟩ = some (.int .u64 (rd_T92 xs i).f2) := by
  obtain ⟨ad, c, e, _, hK, hc0⟩ := Kd.C_get h z92 i h0 h1
  have hc : ∀ j u, c[j]? = some u → w.cell? (ad.add (i.toNat * 3 + j)) = some u := hc0
  obtain rfl := k92_open hK
  exact ⟨ad, e, hc 0 _ rfl, by rw [← add_field _ _ 1 (by omega)]; exact hc 1 _ rfl, by rw [← add_field _ _ 2 (by omega)]; exact hc 2 _ rfl⟩

def rd_L5 (xs : List (List S92)) (i : Int) : (List S92) := xs.getD i.toNat ([] : List S92)
theorem at_L5 {w : World} {A : Option Addr} {n : Nat} {xs : List (List S92)} (h : Kd.C (Kd.slice 92 k92) w A n xs) (i : Int) (h0 : 0 ≤ i) (h1 : i < n) : ∃ ad A0 c0, A = some ad ∧ w.cell? (ad.add i.toNat) = some (.slice A0 (rd_L5 xs i).length c0) ∧ (rd_L5 xs i).length ≤ c0 ∧ k92.C w A0 (rd_L5 xs i).length (rd_L5 xs i) := by
  obtain ⟨ad, c, e, _, hK, hc0⟩ := Kd.C_get h ([] : List S92) i h0 h1
  have hc : ∀ j u, c[j]? = some u → w.cell? (ad.add (i.toNat * 1 + j)) = some u := hc0
  obtain ⟨A0, c0, rfl, l0, g0⟩ := hK
  exact ⟨ad, A0, c0, e, by have hq := hc 0 _ rfl; rwa [Nat.mul_one, Nat.add_zero] at hq, l0, g0⟩

/-! #### struct type 28 -/
structure S28 where
  f0 : Int
  f1 : Int
  f2 : Int
  f3 : Int
def z28 : S28 := ⟨(0 : Int), (0 : Int), (0 : Int), (0 : Int)⟩
def k28 : Kd S28 := Kd.iso (Kd.pair (Kd.int .u64) (Kd.pair (Kd.int .u64) (Kd.pair (Kd.int .u64) (Kd.int .u64)))) (fun x : S28 => (x.f0, x.f1, x.f2, x.f3))
theorem k28_open {w : World} {x : S28} {cs : List Value} (h : k28.K w x cs) : cs = [.int .u64 x.f0, .int .u64 x.f1, .int .u64 x.f2, .int .u64 x.f3] := by
  obtain ⟨_, _, rfl, rfl, ⟨_, _, rfl, rfl, ⟨_, _, rfl, rfl, rfl⟩⟩⟩ := h
  exact rfl
theorem k28_openM {w : World} {base : Nat} {ok : Nat → Prop} {x : S28} {cs : List Value} (h : k28.M w base ok x cs) : cs = [.int .u64 x.f0, .int .u64 x.f1, .int .u64 x.f2, .int .u64 x.f3] := by
  obtain ⟨_, _, rfl, rfl, ⟨_, _, rfl, rfl, ⟨_, _, rfl, rfl, rfl⟩⟩⟩ := h
  exact rfl
theorem k28_mk (w : World) (x : S28)  : k28.K w x [.int .u64 x.f0, .int .u64 x.f1, .int .u64 x.f2, .int .u64 x.f3] := ⟨[.int .u64 x.f0], [.int .u64 x.f1, .int .u64 x.f2, .int .u64 x.f3], rfl, rfl, ⟨[.int .u64 x.f1], [.int .u64 x.f2, .int .u64 x.f3], rfl, rfl, ⟨[.int .u64 x.f2], [.int .u64 x.f3], rfl, rfl, rfl⟩⟩⟩
theorem k28_mkM (w : World) (base : Nat) (ok : Nat → Prop) (x : S28)  : k28.M w base ok x [.int .u64 x.f0, .int .u64 x.f1, .int .u64 x.f2, .int .u64 x.f3] := ⟨[.int .u64 x.f0], [.int .u64 x.f1, .int .u64 x.f2, .int .u64 x.f3], rfl, rfl, ⟨[.int .u64 x.f1], [.int .u64 x.f2, .int .u64 x.f3], rfl, rfl, ⟨[.int .u64 x.f2], [.int .u64 x.f3], rfl, rfl, rfl⟩⟩⟩
def rd_T28 (xs : List S28) (i : Int) : S28 := xs.getD i.toNat z28
theorem at_T28 {w : World} {A : Option Addr} {n : Nat} {xs : List S28} (h : Kd.C k28 w A n xs) (i : Int) (h0 : 0 ≤ i) (h1 : i < n) : ∃ ad , A = some ad ∧ w.cell? (ad.add (i.toNat * 4)) = some (.int .u64 (rd_T28 xs i).f0) ∧ w.cell? ⟨(ad.add (i.toNat * 4)).block, (ad.add (i.toNat * 4)).off + 1, none⟩ = some (.int .u64 (rd_T28 xs i).f1) ∧ w.cell? ⟨(ad.add (i.toNat * 4)).block, (ad.add (i.toNat * 4)).off + 2, none⟩ = some (.int .u64 (rd_T28 xs i).f2) ∧ w.cell? ⟨(ad.add (i.toNat * 4)).block, (ad.add (i.toNat * 4)).off + 3, none⟩ = some (.int .u64 (rd_T28 xs i).f3) := by
  obtain ⟨ad, c, e, _, hK, hc0⟩ := Kd.C_get h z28 i h0 h1
  have hc : ∀ j u, c[j]? = some u → w.cell? (ad.add (i.toNat * 4 + j)) = some u := hc0
  obtain rfl := k28_open hK
  exact ⟨ad, e, hc 0 _ rfl, by rw [← add_field _ _ 1 (by omega)]; exact hc 1 _ rfl, by rw [← add_field _ _ 2 (by omega)]; exact hc 2 _ rfl, by rw [← add_field _ _ 3 (by omega)]; exact hc 3 _ rfl⟩

/-! #### struct type 30 -/
structure S30 where
  f0 : Int
  f1 : Int
  f2 : Int
  f3 : S28
def z30 : S30 := ⟨(0 : Int), (0 : Int), (0 : Int), z28⟩
def k30 : Kd S30 := Kd.iso (Kd.pair (Kd.int .u64) (Kd.pair (Kd.int .u64) (Kd.pair (Kd.int .u64) k28))) (fun x : S30 => (x.f0, x.f1, x.f2, x.f3))
theorem k30_open {w : World} {x : S30} {cs : List Value} (h : k30.K w x cs) : cs = [.int .u64 x.f0, .int .u64 x.f1, .int .u64 x.f2, .int .u64 x.f3.f0, .int .u64 x.f3.f1, .int .u64 x.f3.f2, .int .u64 x.f3.f3] := by
  obtain ⟨_, _, rfl, rfl, ⟨_, _, rfl, rfl, ⟨_, _, rfl, rfl, s3⟩⟩⟩ := h
  obtain rfl := k28_open s3
  exact rfl
theorem k30_openM {w : World} {base : Nat} {ok : Nat → Prop} {x : S30} {cs : List Value} (h : k30.M w base ok x cs) : cs = [.int .u64 x.f0, .int .u64 x.f1, .int .u64 x.f2, .int .u64 x.f3.f0, .int .u64 x.f3.f1, .int .u64 x.f3.f2, .int .u64 x.f3.f3] := by
  obtain ⟨_, _, rfl, rfl, ⟨_, _, rfl, rfl, ⟨_, _, rfl, rfl, s3⟩⟩⟩ := h
  obtain rfl := k28_openM s3
  exact rfl
theorem k30_mk (w : World) (x : S30)  : k30.K w x [.int .u64 x.f0, .int .u64 x.f1, .int .u64 x.f2, .int .u64 x.f3.f0, .int .u64 x.f3.f1, .int .u64 x.f3.f2, .int .u64 x.f3.f3] := ⟨[.int .u64 x.f0], [.int .u64 x.f1, .int .u64 x.f2, .int .u64 x.f3.f0, .int .u64 x.f3.f1, .int .u64 x.f3.f2, .int .u64 x.f3.f3], rfl, rfl, ⟨[.int .u64 x.f1], [.int .u64 x.f2, .int .u64 x.f3.f0, .int .u64 x.f3.f1, .int .u64 x.f3.f2, .int .u64 x.f3.f3], rfl, rfl, ⟨[.int .u64 x.f2], [.int .u64 x.f3.f0, .int .u64 x.f3.f1, .int .u64 x.f3.f2, .int .u64 x.f3.f3], rfl, rfl, (k28_mk w x.f3 )⟩⟩⟩
theorem k30_mkM (w : World) (base : Nat) (ok : Nat → Prop) (x : S30)  : k30.M w base ok x [.int .u64 x.f0, .int .u64 x.f1, .int .u64 x.f2, .int .u64 x.f3.f0, .int .u64 x.f3.f1, .int .u64 x.f3.f2, .int .u64 x.f3.f3] := ⟨[.int .u64 x.f0], [.int .u64 x.f1, .int .u64 x.f2, .int .u64 x.f3.f0, .int .u64 x.f3.f1, .int .u64 x.f3.f2, .int .u64 x.f3.f3], rfl, rfl, ⟨[.int .u64 x.f1], [.int .u64 x.f2, .int .u64 x.f3.f0, .int .u64 x.f3.f1, .int .u64 x.f3.f2, .int .u64 x.f3.f3], rfl, rfl, ⟨[.int .u64 x.f2], [.int .u64 x.f3.f0, .int .u64 x.f3.f1, .int .u64 x.f3.f2, .int .u64 x.f3.f3], rfl, rfl, (k28_mkM w base ok x.f3 )⟩⟩⟩
def rd_T30 (xs : List S30) (i : Int) : S30 := xs.getD i.toNat z30
theorem at_T30 {w : World} {A : Option Addr} {n : Nat} {xs : List S30} (h : Kd.C k30 w A n xs) (i : Int) (h0 : 0 ≤ i) (h1 : i < n) : ∃ ad , A = some ad ∧ w.cell? (ad.add (i.toNat * 7)) = some (.int .u64 (rd_T30 xs i).f0) ∧ w.cell? ⟨(ad.add (i.toNat * 7)).block, (ad.add (i.toNat * 7)).off + 1, none⟩ = some (.int .u64 (rd_T30 xs i).f1) ∧ w.cell? ⟨(ad.add (i.toNat * 7)).block, (ad.add (i.toNat * 7)).off + 2, none⟩ = some (.int .u64 (rd_T30 xs i).f2) ∧ w.cell? ⟨(ad.add (i.toNat * 7)).block, (ad.add (i.toNat * 7)).off + 3, none⟩ = some (.int .u64 (rd_T30 xs i).f3.f0) ∧ w.cell? ⟨(ad.add (i.toNat * 7)).block, (ad.add (i.toNat * 7)).off + 4, none⟩ = some (.int .u64 (rd_T30 xs i).f3.f1) ∧ w.cell? ⟨(ad.add (i.toNat * 7)).block, (ad.add (i.toNat * 7)).off + 5, none⟩ = some (.int .u64 (rd_T30 xs i).f3.f2) ∧ w.cell? ⟨(ad.add (i.toNat * 7)).block, (ad.add (i.toNat * 7)).off + 6, none⟩ = some (.int .u64 (rd_T30 xs i).f3.f3) := by
  obtain ⟨ad, c, e, _, hK, hc0⟩ := Kd.C_get h z30 i h0 h1
  have hc : ∀ j u, c[j]? = some u → w.cell? (ad.add (i.toNat * 7 + j)) = some u := hc0
  obtain rfl := k30_open hK
  exact ⟨ad, e, hc 0 _ rfl, by rw [← add_field _ _ 1 (by omega)]; exact hc 1 _ rfl, by rw [← add_field _ _ 2 (by omega)]; exact hc 2 _ rfl, by rw [← add_field _ _ 3 (by omega)]; exact hc 3 _ rfl, by rw [← add_field _ _ 4 (by omega)]; exact hc 4 _ rfl, by rw [← add_field _ _ 5 (by omega)]; exact hc 5 _ rfl, by rw [← add_field _ _ 6 (by omega)]; exact hc 6 _ rfl⟩

/-! #### struct type 24 -/
structure S24 where
  f0 : Int
  f1 : Int
  f2 : Int
  f3 : Int
def z24 : S24 := ⟨(0 : Int), (0 : Int), (0 : Int), (0 : Int)⟩
def k24 : Kd S24 := Kd.iso (Kd.pair (Kd.int .u64) (Kd.pair (Kd.int .u64) (Kd.pair (Kd.int .u64) (Kd.int .u64)))) (fun x : S24 => (x.f0, x.f1, x.f2, x.f3))
theorem k24_open {w : World} {x : S24} {cs : List Value} (h : k24.K w x cs) : cs = [.int .u64 x.f0, .int .u64 x.f1, .int .u64 x.f2, .int .u64 x.f3] := by
  obtain ⟨_, _, rfl, rfl, ⟨_, _, rfl, rfl, ⟨_, _, rfl, rfl, rfl⟩⟩⟩ := h
  exact rfl
theorem k24_openM {w : World} {base : Nat} {ok : Nat → Prop} {x : S24} {cs : List Value} (h : k24.M w base ok x cs) : cs = [.int .u64 x.f0, .int .u64 x.f1, .int .u64 x.f2, .int .u64 x.f3] := by
  obtain ⟨_, _, rfl, rfl, ⟨_, _, rfl, rfl, ⟨_, _, rfl, rfl, rfl⟩⟩⟩ := h
  exact rfl
theorem k24_mk (w : World) (x : S24)  : k24.K w x [.int .u64 x.f0, .int .u64 x.f1, .int .u64 x.f2, .int .u64 x.f3] := ⟨[.int .u64 x.f0], [.int .u64 x.f1, .int .u64 x.f2, .int .u64 x.f3], rfl, rfl, ⟨[.int .u64 x.f1], [.int .u64 x.f2, .int .u64 x.f3], rfl, rfl, ⟨[.int .u64 x.f2], [.int .u64 x.f3], rfl, rfl, rfl⟩⟩⟩
theorem k24_mkM (w : World) (base : Nat) (ok : Nat → Prop) (x : S24)  : k24.M w base ok x [.int .u64 x.f0, .int .u64 x.f1, .int .u64 x.f2, .int .u64 x.f3] := ⟨[.int .u64 x.f0], [.int .u64 x.f1, .int .u64 x.f2, .int .u64 x.f3], rfl, rfl, ⟨[.int .u64 x.f1], [.int .u64 x.f2, .int .u64 x.f3], rfl, rfl, ⟨[.int .u64 x.f2], [.int .u64 x.f3], rfl, rfl, rfl⟩⟩⟩
def rd_T24 (xs : List S24) (i : Int) : S24 := xs.getD i.toNat z24
theorem at_T24 {w : World} {A : Option Addr} {n : Nat} {xs : List S24} (h : Kd.C k24 w A n xs) (i : Int) (h0 : 0 ≤ i) (h1 : i < n) : ∃ ad , A = some ad ∧ w.cell? (ad.add (i.toNat * 4)) = some (.int .u64 (rd_T24 xs i).f0) ∧ w.cell? ⟨(ad.add (i.toNat * 4)).block, (ad.add (i.toNat * 4)).off + 1, none⟩ = some (.int .u64 (rd_T24 xs i).f1) ∧ w.cell? ⟨(ad.add (i.toNat * 4)).block, (ad.add (i.toNat * 4)).off + 2, none⟩ = some (.int .u64 (rd_T24 xs i).f2) ∧ w.cell? ⟨(ad.add (i.toNat * 4)).block, (ad.add (i.toNat * 4)).off + 3, none⟩ = some (.int .u64 (rd_T24 xs i).f3) := by
  obtain ⟨ad, c, e, _, hK, hc0⟩ := Kd.C_get h z24 i h0 h1
  have hc : ∀ j u, c[j]? = some u → w.cell? (ad.add (i.toNat * 4 + j)) = some u := hc0
  obtain rfl := k24_open hK
  exact ⟨ad, e, hc 0 _ rfl, by rw [← add_field _ _ 1 (by omega)]; exact hc 1 _ rfl, by rw [← add_field _ _ 2 (by omega)]; exact hc 2 _ rfl, by rw [← add_field _ _ 3 (by omega)]; exact hc 3 _ rfl⟩

/-! #### struct type 128 -/
structure S128 where
  f0 : Int
  f1 : S24
def z128 : S128 := ⟨(0 : Int), z24⟩
def k128 : Kd S128 := Kd.iso (Kd.pair (Kd.int .i64) k24) (fun x : S128 => (x.f0, x.f1))
theorem k128_open {w : World} {x : S128} {cs : List Value} (h : k128.K w x cs) : cs = [.int .i64 x.f0, .int .u64 x.f1.f0, .int .u64 x.f1.f1, .int .u64 x.f1.f2, .int .u64 x.f1.f3] := by
  obtain ⟨_, _, rfl, rfl, s1⟩ := h
  obtain rfl := k24_open s1
  exact rfl
theorem k128_openM {w : World} {base : Nat} {ok : Nat → Prop} {x : S128} {cs : List Value} (h : k128.M w base ok x cs) : cs = [.int .i64 x.f0, .int .u64 x.f1.f0, .int .u64 x.f1.f1, .int .u64 x.f1.f2, .int .u64 x.f1.f3] := by
  obtain ⟨_, _, rfl, rfl, s1⟩ := h
  obtain rfl := k24_openM s1
  exact rfl
theorem k128_mk (w : World) (x : S128)  : k128.K w x [.int .i64 x.f0, .int .u64 x.f1.f0, .int .u64 x.f1.f1, .int .u64 x.f1.f2, .int .u64 x.f1.f3] := ⟨[.int .i64 x.f0], [.int .u64 x.f1.f0, .int .u64 x.f1.f1, .int .u64 x.f1.f2, .int .u64 x.f1.f3], rfl, rfl, (k24_mk w x.f1 )⟩
theorem k128_mkM (w : World) (base : Nat) (ok : Nat → Prop) (x : S128)  : k128.M w base ok x [.int .i64 x.f0, .int .u64 x.f1.f0, .int .u64 x.f1.f1, .int .u64 x.f1.f2, .int .u64 x.f1.f3] := ⟨[.int .i64 x.f0], [.int .u64 x.f1.f0, .int .u64 x.f1.f1, .int .u64 x.f1.f2, .int .u64 x.f1.f3], rfl, rfl, (k24_mkM w base ok x.f1 )⟩
def rd_T128 (xs : List S128) (i : Int) : S128 := xs.getD i.toNat z128
theorem at_T128 {w : World} {A : Option Addr} {n : Nat} {xs : List S128} (h : Kd.C k128 w A n xs) (i : Int) (h0 : 0 ≤ i) (h1 : i < n) : ∃ ad , A = some ad ∧ w.cell? (ad.add (i.toNat * 5)) = some (.int .i64 (rd_T128 xs i).f0) ∧ w.cell? ⟨(ad.add (i.toNat * 5)).block, (ad.add (i.toNat * 5)).off + 1, none⟩ = some (.int .u64 (rd_T128 xs i).f1.f0) ∧ w.cell? ⟨(ad.add (i.toNat * 5)).block, (ad.add (i.toNat * 5)).off + 2, none⟩ = some (.int .u64 (rd_T128 xs i).f1.f1) ∧ w.cell? ⟨(ad.add (i.toNat * 5)).block, (ad.add (i.toNat * 5)).off + 3, none⟩ = some (.int .u64 (rd_T128 xs i).f1.f2) ∧ w.cell? ⟨(ad.add (i.toNat * 5)).block, (ad.add (i.toNat * 5)).off + 4, none⟩ = some (.int .u64 (rd_T128 xs i).f1.f3) := by
  obtain ⟨ad, c, e, _, hK, hc0⟩ := Kd.C_get h z128 i h0 h1
  have hc : ∀ j u, c[j]? = some u → w.cell? (ad.add (i.toNat * 5 + j)) = some u := hc0
  obtain rfl := k128_open hK
  exact ⟨ad, e, hc 0 _ rfl, by rw [← add_field _ _ 1 (by omega)]; exact hc 1 _ rfl, by rw [← add_field _ _ 2 (by omega)]; exact hc 2 _ rfl, by rw [← add_field _ _ 3 (by omega)]; exact hc 3 _ rfl, by rw [← add_field _ _ 4 (by omega)]; exact hc 4 _ rfl⟩

/-! #### struct type 130 -/
structure S130 where
  f0 : Int
  f1 : Int
  f2 : S128
def z130 : S130 := ⟨(0 : Int), (0 : Int), z128⟩
def k130 : Kd S130 := Kd.iso (Kd.pair (Kd.int .i64) (Kd.pair (Kd.int .i64) k128)) (fun x : S130 => (x.f0, x.f1, x.f2))
theorem k130_open {w : World} {x : S130} {cs : List Value} (h : k130.K w x cs) : cs = [.int .i64 x.f0, .int .i64 x.f1, .int .i64 x.f2.f0, .int .u64 x.f2.f1.f0, .int .u64 x.f2.f1.f1, .int .u64 x.f2.f1.f2, .int .u64 x.f2.f1.f3] := by
  obtain ⟨_, _, rfl, rfl, ⟨_, _, rfl, rfl, s2⟩⟩ := h
  obtain rfl := k128_open s2
  exact rfl
theorem k130_openM {w : World} {base : Nat} {ok : Nat → Prop} {x : S130} {cs : List Value} (h : k130.M w base ok x cs) : cs = [.int .i64 x.f0, .int .i64 x.f1, .int .i64 x.f2.f0, .int .u64 x.f2.f1.f0, .int .u64 x.f2.f1.f1, .int .u64 x.f2.f1.f2, .int .u64 x.f2.f1.f3] := by
  obtain ⟨_, _, rfl, rfl, ⟨_, _, rfl, rfl, s2⟩⟩ := h
  obtain rfl := k128_openM s2
  exact rfl
theorem k130_mk (w : World) (x : S130)  : k130.K w x [.int .i64 x.f0, .int .i64 x.f1, .int .i64 x.f2.f0, .int .u64 x.f2.f1.f0, .int .u64 x.f2.f1.f1, .int .u64 x.f2.f1.f2, .int .u64 x.f2.f1.f3] := ⟨[.int .i64 x.f0], [.int .i64 x.f1, .int .i64 x.f2.f0, .int .u64 x.f2.f1.f0, .int .u64 x.f2.f1.f1, .int .u64 x.f2.f1.f2, .int .u64 x.f2.f1.f3], rfl, rfl, ⟨[.int .i64 x.f1], [.int .i64 x.f2.f0, .int .u64 x.f2.f1.f0, .int .u64 x.f2.f1.f1, .int .u64 x.f2.f1.f2, .int .u64 x.f2.f1.f3], rfl, rfl, (k128_mk w x.f2 )⟩⟩
theorem k130_mkM (w : World) (base : Nat) (ok : Nat → Prop) (x : S130)  : k130.M w base ok x [.int .i64 x.f0, .int .i64 x.f1, .int .i64 x.f2.f0, .int .u64 x.f2.f1.f0, .int .u64 x.f2.f1.f1, .int .u64 x.f2.f1.f2, .int .u64 x.f2.f1.f3] := ⟨[.int .i64 x.f0], [.int .i64 x.f1, .int .i64 x.f2.f0, .int .u64 x.f2.f1.f0, .int .u64 x.f2.f1.f1, .int .u64 x.f2.f1.f2, .int .u64 x.f2.f1.f3], rfl, rfl, ⟨[.int .i64 x.f1], [.int .i64 x.f2.f0, .int .u64 x.f2.f1.f0, .int .u64 x.f2.f1.f1, .int .u64 x.f2.f1.f2, .int .u64 x.f2.f1.f3], rfl, rfl, (k128_mkM w base ok x.f2 )⟩⟩
def rd_T130 (xs : List S130) (i : Int) : S130 := xs.getD i.toNat z130
theorem at_T130 {w : World} {A : Option Addr} {n : Nat} {xs : List S130} (h : Kd.C k130 w A n xs) (i : Int) (h0 : 0 ≤ i) (h1 : i < n) : ∃ ad , A = some ad ∧ w.cell? (ad.add (i.toNat * 7)) = some (.int .i64 (rd_T130 xs i).f0) ∧ w.cell? ⟨(ad.add (i.toNat * 7)).block, (ad.add (i.toNat * 7)).off + 1, none⟩ = some (.int .i64 (rd_T130 xs i).f1) ∧ w.cell? ⟨(ad.add (i.toNat * 7)).block, (ad.add (i.toNat * 7)).off + 2, none⟩ = some (.int .i64 (rd_T130 xs i).f2.f0) ∧ w.cell? ⟨(ad.add (i.toNat * 7)).block, (ad.add (i.toNat * 7)).off + 3, none⟩ = some (.int .u64 (rd_T130 xs i).f2.f1.f0) ∧ w.cell? ⟨(ad.add (i.toNat * 7)).block, (ad.add (i.toNat * 7)).off + 4, none⟩ = some (.int .u64 (rd_T130 xs i).f2.f1.f1) ∧ w.cell? ⟨(ad.add (i.toNat * 7)).block, (ad.add (i.toNat * 7)).off + 5, none⟩ = some (.int .u64 (rd_T130 xs i).f2.f1.f2) ∧ w.cell? ⟨(ad.add (i.toNat * 7)).block, (ad.add (i.toNat * 7)).off + 6, none⟩ = some (.int .u64 (rd_T130 xs i).f2.f1.f3) := by
  obtain ⟨ad, c, e, _, hK, hc0⟩ := Kd.C_get h z130 i h0 h1
  have hc : ∀ j u, c[j]? = some u → w.cell? (ad.add (i.toNat * 7 + j)) = some u := hc0
  obtain rfl := k130_open hK
  exact ⟨ad, e, hc 0 _ rfl, by rw [← add_field _ _ 1 (by omega)]; exact hc 1 _ rfl, by rw [← add_field _ _ 2 (by omega)]; exact hc 2 _ rfl, by rw [← add_field _ _ 3 (by omega)]; exact hc 3 _ rfl, by rw [← add_field _ _ 4 (by omega)]; exact hc 4 _ rfl, by rw [← add_field _ _ 5 (by omega)]; exact hc 5 _ rfl, by rw [← add_field _ _ 6 (by omega)]; exact hc 6 _ rfl⟩

/-! #### struct type 59 -/
structure S59 where
  f0 : Int
  f1 : S28
def z59 : S59 := ⟨(0 : Int), z28⟩
def k59 : Kd S59 := Kd.iso (Kd.pair (Kd.int .i64) k28) (fun x : S59 => (x.f0, x.f1))
theorem k59_open {w : World} {x : S59} {cs : List Value} (h : k59.K w x cs) : cs = [.int .i64 x.f0, .int .u64 x.f1.f0, .int .u64 x.f1.f1, .int .u64 x.f1.f2, .int .u64 x.f1.f3] := by
  obtain ⟨_, _, rfl, rfl, s1⟩ := h
  obtain rfl := k28_open s1
  exact rfl
theorem k59_openM {w : World} {base : Nat} {ok : Nat → Prop} {x : S59} {cs : List Value} (h : k59.M w base ok x cs) : cs = [.int .i64 x.f0, .int .u64 x.f1.f0, .int .u64 x.f1.f1, .int .u64 x.f1.f2, .int .u64 x.f1.f3] := by
  obtain ⟨_, _, rfl, rfl, s1⟩ := h
  obtain rfl := k28_openM s1
  exact rfl
theorem k59_mk (w : World) (x : S59)  : k59.K w x [.int .i64 x.f0, .int .u64 x.f1.f0, .int .u64 x.f1.f1, .int .u64 x.f1.f2, .int .u64 x.f1.f3] := ⟨[.int .i64 x.f0], [.int .u64 x.f1.f0, .int .u64 x.f1.f1, .int .u64 x.f1.f2, .int .u64 x.f1.f3], rfl, rfl, (k28_mk w x.f1 )⟩
theorem k59_mkM (w : World) (base : Nat) (ok : Nat → Prop) (x : S59)  : k59.M w base ok x [.int .i64 x.f0, .int .u64 x.f1.f0, .int .u64 x.f1.f1, .int .u64 x.f1.f2, .int .u64 x.f1.f3] := ⟨[.int .i64 x.f0], [.int .u64 x.f1.f0, .int .u64 x.f1.f1, .int .u64 x.f1.f2, .int .u64 x.f1.f3], rfl, rfl, (k28_mkM w base ok x.f1 )⟩
def rd_T59 (xs : List S59) (i : Int) : S59 := xs.getD i.toNat z59
theorem at_T59 {w : World} {A : Option Addr} {n : Nat} {xs : List S59} (h : Kd.C k59 w A n xs) (i : Int) (h0 : 0 ≤ i) (h1 : i < n) : ∃ ad , A = some ad ∧ w.cell? (ad.add (i.toNat * 5)) = some (.int .i64 (rd_T59 xs i).f0) ∧ w.cell? ⟨(ad.add (i.toNat * 5)).block, (ad.add (i.toNat * 5)).off + 1, none⟩ = some (.int .u64 (rd_T59 xs i).f1.f0) ∧ w.cell? ⟨(ad.add (i.toNat * 5)).block, (ad.add (i.toNat * 5)).off + 2, none⟩ = some (.int .u64 (rd_T59 xs i).f1.f1) ∧ w.cell? ⟨(ad.add (i.toNat * 5)).block, (ad.add (i.toNat * 5)).off + 3, none⟩ = some (.int .u64 (rd_T59 xs i).f1.f2) ∧ w.cell? ⟨(ad.add (i.toNat * 5)).block, (ad.add (i.toNat * 5)).off + 4, none⟩ = some (.int .u64 (rd_T59 xs i).f1.f3) := by
  obtain ⟨ad, c, e, _, hK, hc0⟩ := Kd.C_get h z59 i h0 h1
  have hc : ∀ j u, c[j]? = some u → w.cell? (ad.add (i.toNat * 5 + j)) = some u := hc0
  obtain rfl := k59_open hK
  exact ⟨ad, e, hc 0 _ rfl, by rw [← add_field _ _ 1 (by omega)]; exact hc 1 _ rfl, by rw [← add_field _ _ 2 (by omega)]; exact hc 2 _ rfl, by rw [← add_field _ _ 3 (by omega)]; exact hc 3 _ rfl, by rw [← add_field _ _ 4 (by omega)]; exact hc 4 _ rfl⟩

/-! #### struct type 108 -/
structure S108 where
  f0 : Int
  f1 : Int
  f2 : S59
def z108 : S108 := ⟨(0 : Int), (0 : Int), z59⟩
def k108 : Kd S108 := Kd.iso (Kd.pair (Kd.int .i64) (Kd.pair (Kd.int .i64) k59)) (fun x : S108 => (x.f0, x.f1, x.f2))
theorem k108_open {w : World} {x : S108} {cs : List Value} (h : k108.K w x cs) : cs = [.int .i64 x.f0, .int .i64 x.f1, .int .i64 x.f2.f0, .int .u64 x.f2.f1.f0, .int .u64 x.f2.f1.f1, .int .u64 x.f2.f1.f2, .int .u64 x.f2.f1.f3] := by
  obtain ⟨_, _, rfl, rfl, ⟨_, _, rfl, rfl, s2⟩⟩ := h
  obtain rfl := k59_open s2
  exact rfl
theorem k108_openM {w : World} {base : Nat} {ok : Nat → Prop} {x : S108} {cs : List Value} (h : k108.M w base ok x cs) : cs = [.int .i64 x.f0, .int .i64 x.f1, .int .i64 x.f2.f0, .int .u64 x.f2.f1.f0, .int .u64 x.f2.f1.f1, .int .u64 x.f2.f1.f2, .int .u64 x.f2.f1.f3] := by
  obtain ⟨_, _, rfl, rfl, ⟨_, _, rfl, rfl, s2⟩⟩ := h
  obtain rfl := k59_openM s2
  exact rfl
theorem k108_mk (w : World) (x : S108)  : k108.K w x [.int .i64 x.f0, .int .i64 x.f1, .int .i64 x.f2.f0, .int .u64 x.f2.f1.f0, .int .u64 x.f2.f1.f1, .int .u64 x.f2.f1.f2, .int .u64 x.f2.f1.f3] := ⟨[.int .i64 x.f0], [.int .i64 x.f1, .int .i64 x.f2.f0, .int .u64 x.f2.f1.f0, .int .u64 x.f2.f1.f1, .int .u64 x.f2.f1.f2, .int .u64 x.f2.f1.f3], rfl, rfl, ⟨[.int .i64 x.f1], [.int .i64 x.f2.f0, .int .u64 x.f2.f1.f0, .int .u64 x.f2.f1.f1, .int .u64 x.f2.f1.f2, .int .u64 x.f2.f1.f3], rfl, rfl, (k59_mk w x.f2 )⟩⟩
theorem k108_mkM (w : World) (base : Nat) (ok : Nat → Prop) (x : S108)  : k108.M w base ok x [.int .i64 x.f0, .int .i64 x.f1, .int .i64 x.f2.f0, .int .u64 x.f2.f1.f0, .int .u64 x.f2.f1.f1, .int .u64 x.f2.f1.f2, .int .u64 x.f2.f1.f3] := ⟨[.int .i64 x.f0], [.int .i64 x.f1, .int .i64 x.f2.f0, .int .u64 x.f2.f1.f0, .int .u64 x.f2.f1.f1, .int .u64 x.f2.f1.f2, .int .u64 x.f2.f1.f3], rfl, rfl, ⟨[.int .i64 x.f1], [.int .i64 x.f2.f0, .int .u64 x.f2.f1.f0, .int .u64 x.f2.f1.f1, .int .u64 x.f2.f1.f2, .int .u64 x.f2.f1.f3], rfl, rfl, (k59_mkM w base ok x.f2 )⟩⟩
def rd_T108 (xs : List S108) (i : Int) : S108 := xs.getD i.toNat z108
theorem at_T108 {w : World} {A : Option Addr} {n : Nat} {xs : List S108} (h : Kd.C k108 w A n xs) (i : Int) (h0 : 0 ≤ i) (h1 : i < n) : ∃ ad , A = some ad ∧ w.cell? (ad.add (i.toNat * 7)) = some (.int .i64 (rd_T108 xs i).f0) ∧ w.cell? ⟨(ad.add (i.toNat * 7)).block, (ad.add (i.toNat * 7)).off + 1, none⟩ = some (.int .i64 (rd_T108 xs i).f1) ∧ w.cell? ⟨(ad.add (i.toNat * 7)).block, (ad.add (i.toNat * 7)).off + 2, none⟩ = some (.int .i64 (rd_T108 xs i).f2.f0) ∧ w.cell? ⟨(ad.add (i.toNat * 7)).block, (ad.add (i.toNat * 7)).off + 3, none⟩ = some (.int .u64 (rd_T108 xs i).f2.f1.f0) ∧ w.cell? ⟨(ad.add (i.toNat * 7)).block, (ad.add (i.toNat * 7)).off + 4, none⟩ = some (.int .u64 (rd_T108 xs i).f2.f1.f1) ∧ w.cell? ⟨(ad.add (i.toNat * 7)).block, (ad.add (i.toNat * 7)).off + 5, none⟩ = some (.int .u64 (rd_T108 xs i).f2.f1.f2) ∧ w.cell? ⟨(ad.add (i.toNat * 7)).block, (ad.add (i.toNat * 7)).off + 6, none⟩ = some (.int .u64 (rd_T108 xs i).f2.f1.f3) := by
  obtain ⟨ad, c, e, _, hK, hc0⟩ := Kd.C_get h z108 i h0 h1
  have hc : ∀ j u, c[j]? = some u → w.cell? (ad.add (i.toNat * 7 + j)) = some u := hc0
  obtain rfl := k108_open hK
  exact ⟨ad, e, hc 0 _ rfl, by rw [← add_field _ _ 1 (by omega)]; exact hc 1 _ rfl, by rw [← add_field _ _ 2 (by omega)]; exact hc 2 _ rfl, by rw [← add_field _ _ 3 (by omega)]; exact hc 3 _ rfl, by rw [← add_field _ _ 4 (by omega)]; exact hc 4 _ rfl, by rw [← add_field _ _ 5 (by omega)]; exact hc 5 _ rfl, by rw [← add_field _ _ 6 (by omega)]; exact hc 6 _ rfl⟩


/-! ### binary_bigEndian_Uint64: function 86 -/
def binary_bigEndian_Uint64.f  (l1 : List Int) : Option (Int) := if 7 < (l1.length : Int) then (if 6 < (l1.length : Int) then (if 5 < (l1.length : Int) then (if 4 < (l1.length : Int) then (if 3 < (l1.length : Int) then (if 2 < (l1.length : Int) then (if 1 < (l1.length : Int) then (if 0 < (l1.length : Int) then (some (Go.bits .or .u64 (Go.bits .or .u64 (Go.bits .or .u64 (Go.bits .or .u64 (Go.bits .or .u64 (Go.bits .or .u64 (Go.bits .or .u64 (IntKind.u64.wrap (rd l1 7)) (IntKind.u64.wrap ((IntKind.u64.wrap (rd l1 6)) * 256))) (IntKind.u64.wrap ((IntKind.u64.wrap (rd l1 5)) * 65536))) (IntKind.u64.wrap ((IntKind.u64.wrap (rd l1 4)) * 16777216))) (IntKind.u64.wrap ((IntKind.u64.wrap (rd l1 3)) * 4294967296))) (IntKind.u64.wrap ((IntKind.u64.wrap (rd l1 2)) * 1099511627776))) (IntKind.u64.wrap ((IntKind.u64.wrap (rd l1 1)) * 281474976710656))) (IntKind.u64.wrap ((IntKind.u64.wrap (rd l1 0)) * 72057594037927936)))) else (none)) else (none)) else (none)) else (none)) else (none)) else (none)) else (none)) else (none)
/-! ### spec_l1Bytes: function 53 -/
def spec_l1Bytes.l0 : Nat → Int → List Int → Int → Option (ByteArray)
  | 0, _, _, _ => none
  | k + 1, x0, x3, x4 => if x4 ≥ 0 then (if 0 ≤ (IntKind.u64.wrap (wrap64 (8 * x4))) then (if x3.length < 140737488355328 then (spec_l1Bytes.l0 k x0 (x3 ++ [(shr .u64 x0 (IntKind.u64.wrap (wrap64 (8 * x4)))) % 256]) (wrap64 (x4 - 1))) else (none)) else (none)) else (some (strOfNums x3))
def spec_l1Bytes.f (k : Nat) (a0 : Int) : Option (ByteArray) := spec_l1Bytes.l0 k a0 (([] : List Int)) 7
/-! ### spec_l1Bare: function 75 -/
def spec_l1Bare.l0 : Nat → ByteArray → List Int → Int → Option (ByteArray)
  | 0, _, _, _ => none
  | k + 1, x0, x3, x4 => if x4 < (x0.size : Int) then (if 0 ≤ x4 then (if (bt x0 x4) = 255 then (spec_l1Bare.l0 k x0 x3 (wrap64 (x4 + 1))) else (if x3.length < 140737488355328 then (spec_l1Bare.l0 k x0 (x3 ++ [bt x0 x4]) (wrap64 (x4 + 1))) else (none))) else (none)) else (some (strOfNums x3))
def spec_l1Bare.f (k : Nat) (a0 : ByteArray) : Option (ByteArray) := spec_l1Bare.l0 k a0 (([] : List Int)) 0
/-! ### spec_l1Zeros: function 76 -/
def spec_l1Zeros.l0 : Nat → Int → List Int → Int → Option (ByteArray)
  | 0, _, _, _ => none
  | k + 1, x0, x3, x4 => if x4 < x0 then (if x3.length < 140737488355328 then (spec_l1Zeros.l0 k x0 (x3 ++ [0]) (wrap64 (x4 + 1))) else (none)) else (some (strOfNums x3))
def spec_l1Zeros.f (k : Nat) (a0 : Int) : Option (ByteArray) := spec_l1Zeros.l0 k a0 (([] : List Int)) 0
/-! ### spec_l1Turn: function 84 -/
def spec_l1Turn.f (a0 : Int) (a1 : Int) : Option (Int) := if 0 ≤ (IntKind.u64.wrap (a1)) then (if 0 ≤ (IntKind.u64.wrap (wrap64 (64 - a1))) then (some (Go.bits .or .u64 (shl .u64 a0 (IntKind.u64.wrap (a1))) (shr .u64 a0 (IntKind.u64.wrap (wrap64 (64 - a1)))))) else (none)) else (none)
/-! ### spec_HashBlock: function 77 -/
def spec_HashBlock.l0 : Nat → Int → Int → Int → Int → Int → Int → Int → Int → Int → Int → Option (Int × Int × Int × Int)
  | 0, _, _, _, _, _, _, _, _, _, _ => none
  | k + 1, x5, x6, x7, x8, x9, x10, x130000, x130001, x130002, x130003 => if x10 < 10 then ((spec_l1Turn.f (Go.bits .xor .u64 x8 (IntKind.u64.wrap ((IntKind.u64.wrap (x5 + x6)) + (IntKind.u64.wrap (x9 + 12620524952350641003))))) 39).bind fun t132 => ((spec_l1Turn.f (Go.bits .xor .u64 x6 (IntKind.u64.wrap (x7 + t132))) 21).bind fun t133 => (spec_HashBlock.l0 k t133 (IntKind.u64.wrap (x7 + t132)) t132 (IntKind.u64.wrap ((IntKind.u64.wrap (x5 + x6)) + (IntKind.u64.wrap (x9 + 12620524952350641003)))) (IntKind.u64.wrap (x9 + 12620524952350641003)) (wrap64 (x10 + 1)) x130000 x130001 x130002 x130003))) else (some (Go.bits .xor .u64 x5 x130000, Go.bits .xor .u64 x6 x130001, Go.bits .xor .u64 x7 x130002, Go.bits .xor .u64 x8 x130003))
def spec_HashBlock.f (k : Nat) (a0_0 : Int) (a0_1 : Int) (a0_2 : Int) (a0_3 : Int) (a1_0 : Int) (a1_1 : Int) (a1_2 : Int) (a1_3 : Int) : Option (Int × Int × Int × Int) := spec_HashBlock.l0 k (Go.bits .xor .u64 a0_0 a1_0) (Go.bits .xor .u64 a0_1 a1_1) (Go.bits .xor .u64 a0_2 a1_2) (Go.bits .xor .u64 a0_3 a1_3) 0 0 a0_0 a0_1 a0_2 a0_3
/-! ### spec_l1Word: function 78 -/
def spec_l1Word.l0 : Nat → ByteArray → Int → Int → Int → Option (Int)
  | 0, _, _, _, _ => none
  | k + 1, x0, x1, x5, x6 => if x6 < (wrap64 (x1 + 8)) then (if 0 ≤ x6 then (if x6 < (x0.size : Int) then (spec_l1Word.l0 k x0 x1 (Go.bits .or .u64 (IntKind.u64.wrap (x5 * 256)) (IntKind.u64.wrap (bt x0 x6))) (wrap64 (x6 + 1))) else (none)) else (none)) else (some x5)
def spec_l1Word.f (k : Nat) (a0 : ByteArray) (a1 : Int) : Option (Int) := spec_l1Word.l0 k a0 a1 0 a1
/-! ### spec_HashOf: function 52 -/
def spec_HashOf.l0 : Nat → ByteArray → Int → Int → Int → Int → Int → Option (Int × Int × Int × Int)
  | 0, _, _, _, _, _, _ => none
  | k + 1, x4, x6, x142000, x142001, x142002, x142003 => if x6 < (x4.size : Int) then ((spec_l1Word.f k x4 x6).bind fun t142 => ((spec_l1Word.f k x4 (wrap64 (x6 + 8))).bind fun t143 => ((spec_l1Word.f k x4 (wrap64 (x6 + 16))).bind fun t144 => ((spec_l1Word.f k x4 (wrap64 (x6 + 24))).bind fun t145 => ((spec_HashBlock.f k x142000 x142001 x142002 x142003 t142 t143 t144 t145).bind fun bt146 => (spec_HashOf.l0 k x4 (wrap64 (x6 + 32)) bt146.1 bt146.2.1 bt146.2.2.1 bt146.2.2.2)))))) else (some (x142000, x142001, x142002, x142003))
def spec_HashOf.f (k : Nat) (a0 : ByteArray) : Option (Int × Int × Int × Int) := if (a0.size : Int) > 20000 then (some (0, 0, 0, 0)) else ((spec_l1Bare.f k a0).bind fun t135 => ((some (([128] : List Int) : List Int)).bind fun y136 => (if t135.size + (strOfNums y136).size ≤ 9223372036854775807 then ((spec_l1Zeros.f k (Int.tmod (wrap64 (32 - (Int.tmod (wrap64 ((t135.size : Int) + 9)) 32))) 32)).bind fun t139 => (if (t135 ++ (strOfNums y136)).size + t139.size ≤ 9223372036854775807 then ((spec_l1Bytes.f k (IntKind.u64.wrap ((t135.size : Int)))).bind fun t140 => (if ((t135 ++ (strOfNums y136)) ++ t139).size + t140.size ≤ 9223372036854775807 then (spec_HashOf.l0 k (((t135 ++ (strOfNums y136)) ++ t139) ++ t140) 0 13971524466476933880 3286059910148148165 8210247237615983910 11412903256176698835) else (none))) else (none))) else (none))))
/-! ### spec_HashBytes: function 54 -/
def spec_HashBytes.f (k : Nat) (a0_0 : Int) (a0_1 : Int) (a0_2 : Int) (a0_3 : Int) : Option (ByteArray) := (spec_l1Bytes.f k a0_0).bind fun t151 => ((spec_l1Bytes.f k a0_1).bind fun t152 => (if t151.size + t152.size ≤ 9223372036854775807 then ((spec_l1Bytes.f k a0_2).bind fun t153 => (if (t151 ++ t152).size + t153.size ≤ 9223372036854775807 then ((spec_l1Bytes.f k a0_3).bind fun t154 => (if ((t151 ++ t152) ++ t153).size + t154.size ≤ 9223372036854775807 then (some (((t151 ++ t152) ++ t153) ++ t154)) else (none))) else (none))) else (none)))
/-! ### spec_SlotSum: function 16 -/
def spec_SlotSum.f (k : Nat) (a0_0 : Int) (a0_1 : Int) (a0_2 : Int) (a0_3 : Int) (a0_4 : Int) (a0_5 : Int) (a0_6 : Int) : Option (Int) := (spec_l1Bytes.f k a0_1).bind fun t156 => ((spec_l1Bytes.f k a0_2).bind fun t157 => (if t156.size + t157.size ≤ 9223372036854775807 then ((spec_HashBytes.f k a0_3 a0_4 a0_5 a0_6).bind fun t158 => (if (t156 ++ t157).size + t158.size ≤ 9223372036854775807 then ((spec_HashOf.f k ((t156 ++ t157) ++ t158)).bind fun bt159 => (some (Go.bits .or .u64 bt159.1 1))) else (none))) else (none)))
/-! ### laws_toDigest: function 42 -/
def laws_toDigest.f (a0_0 : Int) (a0_1 : Int) (a0_2 : Int) (a0_3 : Int) : Option (Int × Int × Int × Int) := some (a0_0, a0_1, a0_2, a0_3)
/-! ### laws_toSlot: function 17 -/
def laws_toSlot.f (a0_0 : Int) (a0_1 : Int) (a0_2 : Int) (a0_3 : Int) (a0_4 : Int) (a0_5 : Int) (a0_6 : Int) : Option (Int × Int × Int × Int × Int × Int × Int) := (laws_toDigest.f a0_3 a0_4 a0_5 a0_6).bind fun bt169 => (some (a0_0, a0_1, a0_2, bt169.1, bt169.2.1, bt169.2.2.1, bt169.2.2.2))
/-! ### binary_bigEndian_AppendUint64: function 56 -/
def binary_bigEndian_AppendUint64.f  (l1 : List Int) (a2 : Int) : Option (List Int) := (some (([(a2 / 72057594037927936) % 256, (a2 / 281474976710656) % 256, (a2 / 1099511627776) % 256, (a2 / 4294967296) % 256, (a2 / 16777216) % 256, (a2 / 65536) % 256, (a2 / 256) % 256, (a2) % 256] : List Int) : List Int)).bind fun y174 => (if l1.length + y174.length < 140737488355328 then (some (l1 ++ y174)) else (none))
/-! ### bits_RotateLeft64: function 85 -/
def bits_RotateLeft64.f (a0 : Int) (a1 : Int) : Option (Int) := if 0 ≤ (Go.bits .and .u64 (IntKind.u64.wrap (a1)) 63) then (if 0 ≤ (IntKind.u64.wrap (64 - (Go.bits .and .u64 (IntKind.u64.wrap (a1)) 63))) then (some (Go.bits .or .u64 (shl .u64 a0 (Go.bits .and .u64 (IntKind.u64.wrap (a1)) 63)) (shr .u64 a0 (IntKind.u64.wrap (64 - (Go.bits .and .u64 (IntKind.u64.wrap (a1)) 63)))))) else (none)) else (none)
/-! ### impl_HashBlock: function 79 -/
def impl_HashBlock.l0 : Nat → Int → Int → Int → Int → Int → Int → Int → Int → Int → Int → Option (Int × Int × Int × Int)
  | 0, _, _, _, _, _, _, _, _, _, _ => none
  | k + 1, x5, x6, x7, x8, x9, x10, x181000, x181001, x181002, x181003 => if x10 < 10 then ((bits_RotateLeft64.f (Go.bits .xor .u64 x8 (IntKind.u64.wrap (x5 + (IntKind.u64.wrap (x6 + (IntKind.u64.wrap (x9 + 12620524952350641003))))))) 39).bind fun t183 => ((bits_RotateLeft64.f (Go.bits .xor .u64 x6 (IntKind.u64.wrap (x7 + t183))) 21).bind fun t184 => (impl_HashBlock.l0 k t184 (IntKind.u64.wrap (x7 + t183)) t183 (IntKind.u64.wrap (x5 + (IntKind.u64.wrap (x6 + (IntKind.u64.wrap (x9 + 12620524952350641003)))))) (IntKind.u64.wrap (x9 + 12620524952350641003)) (wrap64 (x10 + 1)) x181000 x181001 x181002 x181003))) else (some (Go.bits .xor .u64 x5 x181000, Go.bits .xor .u64 x6 x181001, Go.bits .xor .u64 x7 x181002, Go.bits .xor .u64 x8 x181003))
def impl_HashBlock.f (k : Nat) (a0_0 : Int) (a0_1 : Int) (a0_2 : Int) (a0_3 : Int) (a1_0 : Int) (a1_1 : Int) (a1_2 : Int) (a1_3 : Int) : Option (Int × Int × Int × Int) := impl_HashBlock.l0 k (Go.bits .xor .u64 a0_0 a1_0) (Go.bits .xor .u64 a0_1 a1_1) (Go.bits .xor .u64 a0_2 a1_2) (Go.bits .xor .u64 a0_3 a1_3) 0 0 a0_0 a0_1 a0_2 a0_3
/-! ### impl_digestOf: function 80 -/
def impl_digestOf.f (l0 : List Int) : Option (Int × Int × Int × Int) := (binary_bigEndian_Uint64.f l0).bind fun t186 => (if 8 ≤ (l0.length : Int) then ((binary_bigEndian_Uint64.f (l0.drop 8)).bind fun t188 => (if 16 ≤ (l0.length : Int) then ((binary_bigEndian_Uint64.f (l0.drop 16)).bind fun t190 => (if 24 ≤ (l0.length : Int) then ((binary_bigEndian_Uint64.f (l0.drop 24)).bind fun t192 => (some (t186, t188, t190, t192))) else (none))) else (none))) else (none))
/-! ### impl_HashOf: function 57 -/
mutual
def impl_HashOf.l0 : Nat → ByteArray → List Int → Int → Option (Int × Int × Int × Int)
  | 0, _, _, _ => none
  | k + 1, x0, x3, x4 => if x4 < (x0.size : Int) then (if 0 ≤ x4 then (if (bt x0 x4) = 255 then (impl_HashOf.l0 k x0 x3 (wrap64 (x4 + 1))) else (if x3.length < 140737488355328 then (impl_HashOf.l0 k x0 (x3 ++ [bt x0 x4]) (wrap64 (x4 + 1))) else (none))) else (none)) else (if x3.length < 140737488355328 then (impl_HashOf.l1 k (x3 ++ [128]) (IntKind.u64.wrap ((x3.length : Int)))) else (none))
def impl_HashOf.l1 : Nat → List Int → Int → Option (Int × Int × Int × Int)
  | 0, _, _ => none
  | k + 1, x3, x5 => if ((x3.length : Int) % 32) = 24 then ((binary_bigEndian_AppendUint64.f x3 x5).bind fun t203 => (impl_HashOf.l2 k t203 0 13971524466476933880 3286059910148148165 8210247237615983910 11412903256176698835)) else (if x3.length < 140737488355328 then (impl_HashOf.l1 k (x3 ++ [0]) x5) else (none))
def impl_HashOf.l2 : Nat → List Int → Int → Int → Int → Int → Int → Option (Int × Int × Int × Int)
  | 0, _, _, _, _, _, _ => none
  | k + 1, x3, x7, x207000, x207001, x207002, x207003 => if x7 < (x3.length : Int) then (if 0 ≤ x7 then (if x7 ≤ (wrap64 (x7 + 32)) then (if (wrap64 (x7 + 32)) ≤ (x3.length : Int) then ((impl_digestOf.f ((x3.take ((wrap64 (x7 + 32)) : Int).toNat).drop (x7 : Int).toNat)).bind fun bt211 => ((impl_HashBlock.f k x207000 x207001 x207002 x207003 bt211.1 bt211.2.1 bt211.2.2.1 bt211.2.2.2).bind fun bt215 => (impl_HashOf.l2 k x3 (wrap64 (x7 + 32)) bt215.1 bt215.2.1 bt215.2.2.1 bt215.2.2.2))) else (none)) else (none)) else (none)) else (some (x207000, x207001, x207002, x207003))
end
def impl_HashOf.f (k : Nat) (a0 : ByteArray) : Option (Int × Int × Int × Int) := if (a0.size : Int) > 20000 then (some (0, 0, 0, 0)) else (impl_HashOf.l0 k a0 ([] : List Int) 0)
/-! ### impl_SlotSum: function 18 -/
def slot_be8.f (x : Int) : List Int := [(x / 72057594037927936) % 256, (x / 281474976710656) % 256, (x / 1099511627776) % 256, (x / 4294967296) % 256, (x / 16777216) % 256, (x / 65536) % 256, (x / 256) % 256, x % 256]
def slot_sum.f (ws : List Int) (j : Nat) : List Int := (ws.take j).flatMap slot_be8.f
def impl_SlotSum.f (k : Nat) (a0_0 : Int) (a0_1 : Int) (a0_2 : Int) (a0_3 : Int) (a0_4 : Int) (a0_5 : Int) (a0_6 : Int) : Option (Int) := (impl_HashOf.f k (strOfNums (slot_sum.f [a0_1, a0_2, a0_3, a0_4, a0_5, a0_6] 6))).bind fun bt => some (Go.bits .or .u64 bt.1 1)
/-! ### laws_FnExactSlotSum: function 3 -/
def laws_FnExactSlotSum.f (k : Nat) (a0_0 : Int) (a0_1 : Int) (a0_2 : Int) (a0_3 : Int) (a0_4 : Int) (a0_5 : Int) (a0_6 : Int) : Option (Bool) := (laws_toSlot.f a0_0 a0_1 a0_2 a0_3 a0_4 a0_5 a0_6).bind fun bt220 => ((spec_SlotSum.f k bt220.1 bt220.2.1 bt220.2.2.1 bt220.2.2.2.1 bt220.2.2.2.2.1 bt220.2.2.2.2.2.1 bt220.2.2.2.2.2.2).bind fun t227 => ((laws_toSlot.f a0_0 a0_1 a0_2 a0_3 a0_4 a0_5 a0_6).bind fun bt228 => ((impl_SlotSum.f k bt228.1 bt228.2.1 bt228.2.2.1 bt228.2.2.2.1 bt228.2.2.2.2.1 bt228.2.2.2.2.2.1 bt228.2.2.2.2.2.2).bind fun t235 => (if t235 = t227 then (some true) else (some false)))))
/-! ### laws_szRawS: function 19 -/
def laws_szRawS.f (l0 : List (S95)) (a1 : Int) : Option (Int) := if (wrap64 (a1 - (l0.length : Int))) < 0 then (some (-1)) else (some (wrap64 (a1 - (l0.length : Int))))
/-! ### spec_l7Put: function 58 -/
mutual
def spec_l7Put.j0 : Nat → Int → Int → Int → Int → Int → Int → Int → Int → Int → Option (Int × Int × Int × Int × Int × Int × Int)
  | 0, _, _, _, _, _, _, _, _, _ => none
  | k + 1, x1, x2, x237000, x237001, x237002, x237003, x237004, x237005, x237006 => if x1 = 1 then (spec_l7Put.j1 k x1 x2 x237000 x2 x237002 x237003 x237004 x237005 x237006) else (spec_l7Put.j1 k x1 x2 x237000 x237001 x237002 x237003 x237004 x237005 x237006)
def spec_l7Put.j1 : Nat → Int → Int → Int → Int → Int → Int → Int → Int → Int → Option (Int × Int × Int × Int × Int × Int × Int)
  | 0, _, _, _, _, _, _, _, _, _ => none
  | k + 1, x1, x2, x237000, x237001, x237002, x237003, x237004, x237005, x237006 => if x1 = 2 then (spec_l7Put.j2 k x1 x2 x237000 x237001 x2 x237003 x237004 x237005 x237006) else (spec_l7Put.j2 k x1 x2 x237000 x237001 x237002 x237003 x237004 x237005 x237006)
def spec_l7Put.j2 : Nat → Int → Int → Int → Int → Int → Int → Int → Int → Int → Option (Int × Int × Int × Int × Int × Int × Int)
  | 0, _, _, _, _, _, _, _, _, _ => none
  | k + 1, x1, x2, x237000, x237001, x237002, x237003, x237004, x237005, x237006 => if x1 = 3 then (spec_l7Put.j3 k x1 x2 x237000 x237001 x237002 x2 x237004 x237005 x237006) else (spec_l7Put.j3 k x1 x2 x237000 x237001 x237002 x237003 x237004 x237005 x237006)
def spec_l7Put.j3 : Nat → Int → Int → Int → Int → Int → Int → Int → Int → Int → Option (Int × Int × Int × Int × Int × Int × Int)
  | 0, _, _, _, _, _, _, _, _, _ => none
  | k + 1, x1, x2, x237000, x237001, x237002, x237003, x237004, x237005, x237006 => if x1 = 4 then (spec_l7Put.j4 k x1 x2 x237000 x237001 x237002 x237003 x2 x237005 x237006) else (spec_l7Put.j4 k x1 x2 x237000 x237001 x237002 x237003 x237004 x237005 x237006)
def spec_l7Put.j4 : Nat → Int → Int → Int → Int → Int → Int → Int → Int → Int → Option (Int × Int × Int × Int × Int × Int × Int)
  | 0, _, _, _, _, _, _, _, _, _ => none
  | k + 1, x1, x2, x237000, x237001, x237002, x237003, x237004, x237005, x237006 => if x1 = 5 then (if x1 = 6 then (some (x237000, x237001, x237002, x237003, x237004, x2, x2)) else (some (x237000, x237001, x237002, x237003, x237004, x2, x237006))) else (if x1 = 6 then (some (x237000, x237001, x237002, x237003, x237004, x237005, x2)) else (some (x237000, x237001, x237002, x237003, x237004, x237005, x237006)))
end
def spec_l7Put.f (k : Nat) (a0_0 : Int) (a0_1 : Int) (a0_2 : Int) (a0_3 : Int) (a0_4 : Int) (a0_5 : Int) (a0_6 : Int) (a1 : Int) (a2 : Int) : Option (Int × Int × Int × Int × Int × Int × Int) := if a1 = 0 then (spec_l7Put.j0 k a1 a2 a2 a0_1 a0_2 a0_3 a0_4 a0_5 a0_6) else (spec_l7Put.j0 k a1 a2 a0_0 a0_1 a0_2 a0_3 a0_4 a0_5 a0_6)
/-! ### spec_DiskWrite: function 20 -/
def spec_DiskWrite.l0 : Nat → List (S92) → Int → Int → Int → Int → Int → Int → Int → Int → Int → Int → Int → Int → Int → Int → Int → Option (Int × Int × Int × Int × Int × Int × Int × Int × Int × Int × Int × Int × Int × Int)
  | 0, _, _, _, _, _, _, _, _, _, _, _, _, _, _, _, _ => none
  | k + 1, x1, x5, x239000, x239001, x239002, x239003, x239004, x239005, x239006, x239007, x239008, x239009, x239010, x239011, x239012, x239013 => if x5 < (x1.length : Int) then (if 0 ≤ x5 then (if ((rd_T92 x1 x5).f0) = 1 then ((spec_l7Put.f k x239000 x239001 x239002 x239003 x239004 x239005 x239006 ((rd_T92 x1 x5).f1) ((rd_T92 x1 x5).f2)).bind fun bt242 => (if ((rd_T92 x1 x5).f0) = 2 then ((spec_l7Put.f k x239007 x239008 x239009 x239010 x239011 x239012 x239013 ((rd_T92 x1 x5).f1) ((rd_T92 x1 x5).f2)).bind fun bt249 => (spec_DiskWrite.l0 k x1 (wrap64 (x5 + 1)) bt242.1 bt242.2.1 bt242.2.2.1 bt242.2.2.2.1 bt242.2.2.2.2.1 bt242.2.2.2.2.2.1 bt242.2.2.2.2.2.2 bt249.1 bt249.2.1 bt249.2.2.1 bt249.2.2.2.1 bt249.2.2.2.2.1 bt249.2.2.2.2.2.1 bt249.2.2.2.2.2.2)) else (spec_DiskWrite.l0 k x1 (wrap64 (x5 + 1)) bt242.1 bt242.2.1 bt242.2.2.1 bt242.2.2.2.1 bt242.2.2.2.2.1 bt242.2.2.2.2.2.1 bt242.2.2.2.2.2.2 x239007 x239008 x239009 x239010 x239011 x239012 x239013))) else (if ((rd_T92 x1 x5).f0) = 2 then ((spec_l7Put.f k x239007 x239008 x239009 x239010 x239011 x239012 x239013 ((rd_T92 x1 x5).f1) ((rd_T92 x1 x5).f2)).bind fun bt256 => (spec_DiskWrite.l0 k x1 (wrap64 (x5 + 1)) x239000 x239001 x239002 x239003 x239004 x239005 x239006 bt256.1 bt256.2.1 bt256.2.2.1 bt256.2.2.2.1 bt256.2.2.2.2.1 bt256.2.2.2.2.2.1 bt256.2.2.2.2.2.2)) else (spec_DiskWrite.l0 k x1 (wrap64 (x5 + 1)) x239000 x239001 x239002 x239003 x239004 x239005 x239006 x239007 x239008 x239009 x239010 x239011 x239012 x239013))) else (none)) else (some (x239000, x239001, x239002, x239003, x239004, x239005, x239006, x239007, x239008, x239009, x239010, x239011, x239012, x239013))
def spec_DiskWrite.f (k : Nat) (a0_0 : Int) (a0_1 : Int) (a0_2 : Int) (a0_3 : Int) (a0_4 : Int) (a0_5 : Int) (a0_6 : Int) (a0_7 : Int) (a0_8 : Int) (a0_9 : Int) (a0_10 : Int) (a0_11 : Int) (a0_12 : Int) (a0_13 : Int) (l1 : List (S92)) : Option (Int × Int × Int × Int × Int × Int × Int × Int × Int × Int × Int × Int × Int × Int) := spec_DiskWrite.l0 k l1 0 a0_0 a0_1 a0_2 a0_3 a0_4 a0_5 a0_6 a0_7 a0_8 a0_9 a0_10 a0_11 a0_12 a0_13
/-! ### laws_toDisk: function 21 -/
def laws_toDisk.f (a0_0 : Int) (a0_1 : Int) (a0_2 : Int) (a0_3 : Int) (a0_4 : Int) (a0_5 : Int) (a0_6 : Int) (a0_7 : Int) (a0_8 : Int) (a0_9 : Int) (a0_10 : Int) (a0_11 : Int) (a0_12 : Int) (a0_13 : Int) : Option (Int × Int × Int × Int × Int × Int × Int × Int × Int × Int × Int × Int × Int × Int) := (laws_toSlot.f a0_0 a0_1 a0_2 a0_3 a0_4 a0_5 a0_6).bind fun bt266 => ((laws_toSlot.f a0_7 a0_8 a0_9 a0_10 a0_11 a0_12 a0_13).bind fun bt273 => (some (bt266.1, bt266.2.1, bt266.2.2.1, bt266.2.2.2.1, bt266.2.2.2.2.1, bt266.2.2.2.2.2.1, bt266.2.2.2.2.2.2, bt273.1, bt273.2.1, bt273.2.2.1, bt273.2.2.2.1, bt273.2.2.2.2.1, bt273.2.2.2.2.2.1, bt273.2.2.2.2.2.2)))
/-! ### laws_toRaw: function 59 -/
def laws_toRaw.f (a0_0 : Int) (a0_1 : Int) (a0_2 : Int) : Option (Int × Int × Int) := some (a0_0, a0_1, a0_2)
/-! ### laws_toRawS: function 22 -/
def laws_toRawS.l0 : Nat → List (S95) → List (S92) → Int → Option ((List (S92)))
  | 0, _, _, _ => none
  | k + 1, x0, x3, x4 => if x4 < (x0.length : Int) then (if 0 ≤ x4 then ((laws_toRaw.f ((rd_T95 x0 x4).f0) ((rd_T95 x0 x4).f1) ((rd_T95 x0 x4).f2)).bind fun bt287 => (if x4 < (x3.length : Int) then (laws_toRawS.l0 k x0 (x3.set (x4 : Int).toNat (⟨bt287.1, bt287.2.1, bt287.2.2⟩ : S92)) (wrap64 (x4 + 1))) else (none))) else (none)) else (some x3)
def laws_toRawS.f (k : Nat) (l0 : List (S95)) : Option ((List (S92))) := if 0 ≤ (l0.length : Int) then (if ((l0.length : Int) : Int).toNat ≤ 11728124029610 then (laws_toRawS.l0 k l0 (List.replicate ((l0.length : Int) : Int).toNat z92) 0) else (none)) else (none)
/-! ### impl_in: function 60 -/
def impl_in.f (a0 : Int) (a1 : Int) (a2 : Int) : Option (Bool) := if a0 ≥ a1 then (some (decide (a0 ≤ a2))) else (some false)
/-! ### laws_eqDigest: function 63 -/
def laws_eqDigest.f (a0_0 : Int) (a0_1 : Int) (a0_2 : Int) (a0_3 : Int) (a1_0 : Int) (a1_1 : Int) (a1_2 : Int) (a1_3 : Int) : Option (Bool) := if a0_0 = a1_0 then (if a0_1 = a1_1 then (if a0_2 = a1_2 then (if a0_3 = a1_3 then (some true) else (some false)) else (some false)) else (some false)) else (some false)
/-! ### laws_eqSlot: function 61 -/
def laws_eqSlot.f (a0_0 : Int) (a0_1 : Int) (a0_2 : Int) (a0_3 : Int) (a0_4 : Int) (a0_5 : Int) (a0_6 : Int) (a1_0 : Int) (a1_1 : Int) (a1_2 : Int) (a1_3 : Int) (a1_4 : Int) (a1_5 : Int) (a1_6 : Int) : Option (Bool) := if a0_0 = a1_0 then (if a0_1 = a1_1 then (if a0_2 = a1_2 then ((laws_eqDigest.f a0_3 a0_4 a0_5 a0_6 a1_3 a1_4 a1_5 a1_6).bind fun t300 => (if t300 = true then (some true) else (some false))) else (some false)) else (some false)) else (some false)
/-! ### laws_eqDisk: function 24 -/
def laws_eqDisk.f (a0_0 : Int) (a0_1 : Int) (a0_2 : Int) (a0_3 : Int) (a0_4 : Int) (a0_5 : Int) (a0_6 : Int) (a0_7 : Int) (a0_8 : Int) (a0_9 : Int) (a0_10 : Int) (a0_11 : Int) (a0_12 : Int) (a0_13 : Int) (a1_0 : Int) (a1_1 : Int) (a1_2 : Int) (a1_3 : Int) (a1_4 : Int) (a1_5 : Int) (a1_6 : Int) (a1_7 : Int) (a1_8 : Int) (a1_9 : Int) (a1_10 : Int) (a1_11 : Int) (a1_12 : Int) (a1_13 : Int) : Option (Bool) := (laws_eqSlot.f a0_0 a0_1 a0_2 a0_3 a0_4 a0_5 a0_6 a1_0 a1_1 a1_2 a1_3 a1_4 a1_5 a1_6).bind fun t303 => (if t303 = true then ((laws_eqSlot.f a0_7 a0_8 a0_9 a0_10 a0_11 a0_12 a0_13 a1_7 a1_8 a1_9 a1_10 a1_11 a1_12 a1_13).bind fun t304 => (if t304 = true then (some true) else (some false))) else (some false))
/-! ### laws_eqRaw: function 62 -/
def laws_eqRaw.f (a0_0 : Int) (a0_1 : Int) (a0_2 : Int) (a1_0 : Int) (a1_1 : Int) (a1_2 : Int) : Option (Bool) := if a0_0 = a1_0 then (if a0_1 = a1_1 then (if a0_2 = a1_2 then (some true) else (some false)) else (some false)) else (some false)
/-! ### laws_eqRawS: function 25 -/
def laws_eqRawS.l0 : Nat → List (S92) → List (S92) → Int → Option (Bool)
  | 0, _, _, _ => none
  | k + 1, x0, x1, x5 => if x5 < (x0.length : Int) then (if 0 ≤ x5 then (if x5 < (x1.length : Int) then ((laws_eqRaw.f ((rd_T92 x0 x5).f0) ((rd_T92 x0 x5).f1) ((rd_T92 x0 x5).f2) ((rd_T92 x1 x5).f0) ((rd_T92 x1 x5).f1) ((rd_T92 x1 x5).f2)).bind fun t309 => (if t309 = true then (laws_eqRawS.l0 k x0 x1 (wrap64 (x5 + 1))) else (some false))) else (none)) else (none)) else (some true)
def laws_eqRawS.f (k : Nat) (l0 : List (S92)) (l1 : List (S92)) : Option (Bool) := if (l0.length : Int) = (l1.length : Int) then (laws_eqRawS.l0 k l0 l1 0) else (some false)
/-! ### spec_SlotOk: function 26 -/
def spec_SlotOk.f (k : Nat) (a0_0 : Int) (a0_1 : Int) (a0_2 : Int) (a0_3 : Int) (a0_4 : Int) (a0_5 : Int) (a0_6 : Int) : Option (Bool) := (spec_SlotSum.f k a0_0 a0_1 a0_2 a0_3 a0_4 a0_5 a0_6).bind fun t362 => (if a0_0 = t362 then (if a0_1 ≥ 1 then (if a0_1 ≤ 1000000000 then (if a0_2 ≥ 1 then (some (decide (a0_2 ≤ 256))) else (some false)) else (some false)) else (some false)) else (some false))
/-! ### impl_SlotOk: function 27 -/
def impl_SlotOk.f (k : Nat) (a0_0 : Int) (a0_1 : Int) (a0_2 : Int) (a0_3 : Int) (a0_4 : Int) (a0_5 : Int) (a0_6 : Int) : Option (Bool) := (impl_SlotSum.f k a0_0 a0_1 a0_2 a0_3 a0_4 a0_5 a0_6).bind fun t364 => (if a0_0 = t364 then (if a0_1 ≥ 1 then (if a0_1 ≤ 1000000000 then (if a0_2 ≥ 1 then (some (decide (a0_2 ≤ 256))) else (some false)) else (some false)) else (some false)) else (some false))
/-! ### laws_FnExactSlotOk: function 5 -/
def laws_FnExactSlotOk.f (k : Nat) (a0_0 : Int) (a0_1 : Int) (a0_2 : Int) (a0_3 : Int) (a0_4 : Int) (a0_5 : Int) (a0_6 : Int) : Option (Bool) := (laws_toSlot.f a0_0 a0_1 a0_2 a0_3 a0_4 a0_5 a0_6).bind fun bt366 => ((spec_SlotOk.f k bt366.1 bt366.2.1 bt366.2.2.1 bt366.2.2.2.1 bt366.2.2.2.2.1 bt366.2.2.2.2.2.1 bt366.2.2.2.2.2.2).bind fun t373 => ((laws_toSlot.f a0_0 a0_1 a0_2 a0_3 a0_4 a0_5 a0_6).bind fun bt374 => ((impl_SlotOk.f k bt374.1 bt374.2.1 bt374.2.2.1 bt374.2.2.2.1 bt374.2.2.2.2.1 bt374.2.2.2.2.2.1 bt374.2.2.2.2.2.2).bind fun t381 => (if (t381 != t373) = true then (some false) else (some true)))))
/-! ### spec_RecordCut: function 28 -/
def spec_RecordCut.f (k : Nat) (a0_0 : Int) (a0_1 : Int) (a0_2 : Int) (a0_3 : Int) (a0_4 : Int) (a0_5 : Int) (a0_6 : Int) (a0_7 : Int) (a0_8 : Int) (a0_9 : Int) (a0_10 : Int) (a0_11 : Int) (a0_12 : Int) (a0_13 : Int) (l1 : List (S92)) (a2 : Int) : Option (Int × Int × Int × Int × Int × Int × Int × Int × Int × Int × Int × Int × Int × Int) := if a2 < 0 then (if 0 > (l1.length : Int) then (if 0 ≤ (l1.length : Int) then (if (l1.length : Int) ≤ (l1.length : Int) then ((spec_DiskWrite.f k a0_0 a0_1 a0_2 a0_3 a0_4 a0_5 a0_6 a0_7 a0_8 a0_9 a0_10 a0_11 a0_12 a0_13 (l1.take ((l1.length : Int) : Int).toNat)).bind fun bt388 => (some (bt388.1, bt388.2.1, bt388.2.2.1, bt388.2.2.2.1, bt388.2.2.2.2.1, bt388.2.2.2.2.2.1, bt388.2.2.2.2.2.2.1, bt388.2.2.2.2.2.2.2.1, bt388.2.2.2.2.2.2.2.2.1, bt388.2.2.2.2.2.2.2.2.2.1, bt388.2.2.2.2.2.2.2.2.2.2.1, bt388.2.2.2.2.2.2.2.2.2.2.2.1, bt388.2.2.2.2.2.2.2.2.2.2.2.2.1, bt388.2.2.2.2.2.2.2.2.2.2.2.2.2))) else (none)) else (none)) else (if 0 ≤ (l1.length : Int) then ((spec_DiskWrite.f k a0_0 a0_1 a0_2 a0_3 a0_4 a0_5 a0_6 a0_7 a0_8 a0_9 a0_10 a0_11 a0_12 a0_13 (l1.take 0)).bind fun bt406 => (some (bt406.1, bt406.2.1, bt406.2.2.1, bt406.2.2.2.1, bt406.2.2.2.2.1, bt406.2.2.2.2.2.1, bt406.2.2.2.2.2.2.1, bt406.2.2.2.2.2.2.2.1, bt406.2.2.2.2.2.2.2.2.1, bt406.2.2.2.2.2.2.2.2.2.1, bt406.2.2.2.2.2.2.2.2.2.2.1, bt406.2.2.2.2.2.2.2.2.2.2.2.1, bt406.2.2.2.2.2.2.2.2.2.2.2.2.1, bt406.2.2.2.2.2.2.2.2.2.2.2.2.2))) else (none))) else (if a2 > (l1.length : Int) then (if 0 ≤ (l1.length : Int) then (if (l1.length : Int) ≤ (l1.length : Int) then ((spec_DiskWrite.f k a0_0 a0_1 a0_2 a0_3 a0_4 a0_5 a0_6 a0_7 a0_8 a0_9 a0_10 a0_11 a0_12 a0_13 (l1.take ((l1.length : Int) : Int).toNat)).bind fun bt424 => (some (bt424.1, bt424.2.1, bt424.2.2.1, bt424.2.2.2.1, bt424.2.2.2.2.1, bt424.2.2.2.2.2.1, bt424.2.2.2.2.2.2.1, bt424.2.2.2.2.2.2.2.1, bt424.2.2.2.2.2.2.2.2.1, bt424.2.2.2.2.2.2.2.2.2.1, bt424.2.2.2.2.2.2.2.2.2.2.1, bt424.2.2.2.2.2.2.2.2.2.2.2.1, bt424.2.2.2.2.2.2.2.2.2.2.2.2.1, bt424.2.2.2.2.2.2.2.2.2.2.2.2.2))) else (none)) else (none)) else (if 0 ≤ a2 then (if a2 ≤ (l1.length : Int) then ((spec_DiskWrite.f k a0_0 a0_1 a0_2 a0_3 a0_4 a0_5 a0_6 a0_7 a0_8 a0_9 a0_10 a0_11 a0_12 a0_13 (l1.take (a2 : Int).toNat)).bind fun bt442 => (some (bt442.1, bt442.2.1, bt442.2.2.1, bt442.2.2.2.1, bt442.2.2.2.2.1, bt442.2.2.2.2.2.1, bt442.2.2.2.2.2.2.1, bt442.2.2.2.2.2.2.2.1, bt442.2.2.2.2.2.2.2.2.1, bt442.2.2.2.2.2.2.2.2.2.1, bt442.2.2.2.2.2.2.2.2.2.2.1, bt442.2.2.2.2.2.2.2.2.2.2.2.1, bt442.2.2.2.2.2.2.2.2.2.2.2.2.1, bt442.2.2.2.2.2.2.2.2.2.2.2.2.2))) else (none)) else (none)))
/-! ### spec_RecordRead: function 30 -/
def spec_RecordRead.j0 : Nat → Bool → Bool → Int → Int → Int → Int → Int → Int → Int → Int → Int → Int → Int → Int → Int → Int → Option (Int × Int × Int × Int × Int × Int × Int)
  | 0, _, _, _, _, _, _, _, _, _, _, _, _, _, _, _, _ => none
  | k + 1, x5, x25, x514000, x514001, x514002, x514003, x514004, x514005, x514006, x514007, x514008, x514009, x514010, x514011, x514012, x514013 => if x25 = true then (some (wrap64 (x514001), wrap64 (x514002), x514003, x514004, x514005, x514006, 1)) else (if x5 = true then (some (wrap64 (x514008), wrap64 (x514009), x514010, x514011, x514012, x514013, 2)) else (some (0, 0, 0, 0, 0, 0, 0)))
def spec_RecordRead.f (k : Nat) (a0_0 : Int) (a0_1 : Int) (a0_2 : Int) (a0_3 : Int) (a0_4 : Int) (a0_5 : Int) (a0_6 : Int) (a0_7 : Int) (a0_8 : Int) (a0_9 : Int) (a0_10 : Int) (a0_11 : Int) (a0_12 : Int) (a0_13 : Int) : Option (Int × Int × Int × Int × Int × Int × Int) := (spec_SlotOk.f k a0_0 a0_1 a0_2 a0_3 a0_4 a0_5 a0_6).bind fun t515 => ((spec_SlotOk.f k a0_7 a0_8 a0_9 a0_10 a0_11 a0_12 a0_13).bind fun t516 => (if t515 = true then (if t516 = true then (spec_RecordRead.j0 k t516 (decide (a0_1 ≥ a0_8)) a0_0 a0_1 a0_2 a0_3 a0_4 a0_5 a0_6 a0_7 a0_8 a0_9 a0_10 a0_11 a0_12 a0_13) else (spec_RecordRead.j0 k t516 true a0_0 a0_1 a0_2 a0_3 a0_4 a0_5 a0_6 a0_7 a0_8 a0_9 a0_10 a0_11 a0_12 a0_13)) else (spec_RecordRead.j0 k t516 false a0_0 a0_1 a0_2 a0_3 a0_4 a0_5 a0_6 a0_7 a0_8 a0_9 a0_10 a0_11 a0_12 a0_13)))
/-! ### impl_RecordRead: function 31 -/
def impl_RecordRead.f (k : Nat) (a0_0 : Int) (a0_1 : Int) (a0_2 : Int) (a0_3 : Int) (a0_4 : Int) (a0_5 : Int) (a0_6 : Int) (a0_7 : Int) (a0_8 : Int) (a0_9 : Int) (a0_10 : Int) (a0_11 : Int) (a0_12 : Int) (a0_13 : Int) : Option (Int × Int × Int × Int × Int × Int × Int) := (impl_SlotOk.f k a0_0 a0_1 a0_2 a0_3 a0_4 a0_5 a0_6).bind fun t520 => (if t520 = true then ((impl_SlotOk.f k a0_7 a0_8 a0_9 a0_10 a0_11 a0_12 a0_13).bind fun t521 => (if t521 = true then (if 1 = 0 then (some (wrap64 (a0_8), wrap64 (a0_9), a0_10, a0_11, a0_12, a0_13, 2)) else (if a0_8 > a0_1 then (some (wrap64 (a0_8), wrap64 (a0_9), a0_10, a0_11, a0_12, a0_13, 2)) else (some (wrap64 (a0_1), wrap64 (a0_2), a0_3, a0_4, a0_5, a0_6, 1)))) else (some (wrap64 (a0_1), wrap64 (a0_2), a0_3, a0_4, a0_5, a0_6, 1)))) else ((impl_SlotOk.f k a0_7 a0_8 a0_9 a0_10 a0_11 a0_12 a0_13).bind fun t522 => (if t522 = true then (if 0 = 0 then (some (wrap64 (a0_8), wrap64 (a0_9), a0_10, a0_11, a0_12, a0_13, 2)) else (if a0_8 > 0 then (some (wrap64 (a0_8), wrap64 (a0_9), a0_10, a0_11, a0_12, a0_13, 2)) else (some (0, 0, 0, 0, 0, 0, 0)))) else (some (0, 0, 0, 0, 0, 0, 0)))))
/-! ### laws_eqRecord: function 32 -/
def laws_eqRecord.f (a0_0 : Int) (a0_1 : Int) (a0_2 : Int) (a0_3 : Int) (a0_4 : Int) (a0_5 : Int) (a1_0 : Int) (a1_1 : Int) (a1_2 : Int) (a1_3 : Int) (a1_4 : Int) (a1_5 : Int) : Option (Bool) := if a0_0 = a1_0 then (if a0_1 = a1_1 then ((laws_eqDigest.f a0_2 a0_3 a0_4 a0_5 a1_2 a1_3 a1_4 a1_5).bind fun t525 => (if t525 = true then (some true) else (some false))) else (some false)) else (some false)
/-! ### laws_FnExactRecordRead: function 7 -/
def laws_FnExactRecordRead.f (k : Nat) (a0_0 : Int) (a0_1 : Int) (a0_2 : Int) (a0_3 : Int) (a0_4 : Int) (a0_5 : Int) (a0_6 : Int) (a0_7 : Int) (a0_8 : Int) (a0_9 : Int) (a0_10 : Int) (a0_11 : Int) (a0_12 : Int) (a0_13 : Int) : Option (Bool) := (laws_toDisk.f a0_0 a0_1 a0_2 a0_3 a0_4 a0_5 a0_6 a0_7 a0_8 a0_9 a0_10 a0_11 a0_12 a0_13).bind fun bt527 => ((spec_RecordRead.f k bt527.1 bt527.2.1 bt527.2.2.1 bt527.2.2.2.1 bt527.2.2.2.2.1 bt527.2.2.2.2.2.1 bt527.2.2.2.2.2.2.1 bt527.2.2.2.2.2.2.2.1 bt527.2.2.2.2.2.2.2.2.1 bt527.2.2.2.2.2.2.2.2.2.1 bt527.2.2.2.2.2.2.2.2.2.2.1 bt527.2.2.2.2.2.2.2.2.2.2.2.1 bt527.2.2.2.2.2.2.2.2.2.2.2.2.1 bt527.2.2.2.2.2.2.2.2.2.2.2.2.2).bind fun bt541 => ((laws_toDisk.f a0_0 a0_1 a0_2 a0_3 a0_4 a0_5 a0_6 a0_7 a0_8 a0_9 a0_10 a0_11 a0_12 a0_13).bind fun bt549 => ((impl_RecordRead.f k bt549.1 bt549.2.1 bt549.2.2.1 bt549.2.2.2.1 bt549.2.2.2.2.1 bt549.2.2.2.2.2.1 bt549.2.2.2.2.2.2.1 bt549.2.2.2.2.2.2.2.1 bt549.2.2.2.2.2.2.2.2.1 bt549.2.2.2.2.2.2.2.2.2.1 bt549.2.2.2.2.2.2.2.2.2.2.1 bt549.2.2.2.2.2.2.2.2.2.2.2.1 bt549.2.2.2.2.2.2.2.2.2.2.2.2.1 bt549.2.2.2.2.2.2.2.2.2.2.2.2.2).bind fun bt563 => ((laws_eqRecord.f bt563.1 bt563.2.1 bt563.2.2.1 bt563.2.2.2.1 bt563.2.2.2.2.1 bt563.2.2.2.2.2.1 bt541.1 bt541.2.1 bt541.2.2.1 bt541.2.2.2.1 bt541.2.2.2.2.1 bt541.2.2.2.2.2.1).bind fun t571 => (if t571 = true then (if bt563.2.2.2.2.2.2 = bt541.2.2.2.2.2.2 then (some true) else (some false)) else (some false))))))
/-! ### spec_l1Open: function 64 -/
def spec_l1Open.f (l0 : List Int) : Option (List Int × Int) := if (l0.length : Int) > 2000 then (if 2000 ≤ (l0.length : Int) then (some (l0.take 2000, 0)) else (none)) else (some (l0, 0))
/-! ### spec_l1Rd_pick: function 73 -/
def spec_l1Rd_pick.j0 : Nat → Int → Bool → List Int → Int → Option (Int × Int)
  | 0, _, _, _, _ => none
  | k + 1, x1, x24, x1000, x1001 => if x24 = true then (some (0, x1001)) else (if (wrap64 (x1001 - 1)) < (x1000.length : Int) then (if 0 ≤ (wrap64 (x1001 - 1)) then (if x1 = 0 then (none) else (some (Int.tmod (wrap64 (rd x1000 (wrap64 (x1001 - 1)))) x1, x1001))) else (none)) else (if (x1000.length : Int) = 0 then (none) else (if 0 ≤ (Int.tmod (wrap64 (x1001 - 1)) (x1000.length : Int)) then (if (Int.tmod (wrap64 (x1001 - 1)) (x1000.length : Int)) < (x1000.length : Int) then (if 0 ≤ (Int.tmod (wrap64 ((wrap64 ((wrap64 (x1001 - 1)) * 7)) + 3)) (x1000.length : Int)) then (if (Int.tmod (wrap64 ((wrap64 ((wrap64 (x1001 - 1)) * 7)) + 3)) (x1000.length : Int)) < (x1000.length : Int) then (if x1 = 0 then (none) else (some (Int.tmod (Go.bits .xor .i64 (wrap64 ((wrap64 ((wrap64 ((wrap64 ((wrap64 (rd x1000 (Int.tmod (wrap64 (x1001 - 1)) (x1000.length : Int)))) * 131)) + (wrap64 ((wrap64 (rd x1000 (Int.tmod (wrap64 ((wrap64 ((wrap64 (x1001 - 1)) * 7)) + 3)) (x1000.length : Int)))) * 1117)))) + (wrap64 ((wrap64 (x1001 - 1)) * 29)))) + (wrap64 ((wrap64 (Int.tdiv (wrap64 (x1001 - 1)) (x1000.length : Int))) * 53)))) (wrap64 (Int.tdiv (wrap64 ((wrap64 ((wrap64 ((wrap64 ((wrap64 (rd x1000 (Int.tmod (wrap64 (x1001 - 1)) (x1000.length : Int)))) * 131)) + (wrap64 ((wrap64 (rd x1000 (Int.tmod (wrap64 ((wrap64 ((wrap64 (x1001 - 1)) * 7)) + 3)) (x1000.length : Int)))) * 1117)))) + (wrap64 ((wrap64 (x1001 - 1)) * 29)))) + (wrap64 ((wrap64 (Int.tdiv (wrap64 (x1001 - 1)) (x1000.length : Int))) * 53)))) 64))) x1, x1001))) else (none)) else (none)) else (none)) else (none))))
def spec_l1Rd_pick.f (k : Nat) (s0_0 : List Int) (s0_1 : Int) (a1 : Int) : Option (Int × Int) := if a1 < 1 then (spec_l1Rd_pick.j0 k a1 true s0_0 (wrap64 (s0_1 + 1))) else (spec_l1Rd_pick.j0 k a1 ((s0_0.length : Int) == 0) s0_0 (wrap64 (s0_1 + 1)))
/-! ### spec_l1Rd_word: function 81 -/
def spec_l1Rd_word.l0 : Nat → Int → Int → List Int → Int → Option (Int × Int)
  | 0, _, _, _, _ => none
  | k + 1, x4, x5, x1000, x1001 => if x5 < 8 then ((spec_l1Rd_pick.f k x1000 x1001 256).bind fun bt584 => (spec_l1Rd_word.l0 k (Go.bits .or .u64 (IntKind.u64.wrap (x4 * 256)) (IntKind.u64.wrap (bt584.1))) (wrap64 (x5 + 1)) x1000 bt584.2)) else (some (x4, x1001))
def spec_l1Rd_word.f (k : Nat) (s0_0 : List Int) (s0_1 : Int) : Option (Int × Int) := (spec_l1Rd_pick.f k s0_0 s0_1 6).bind fun bt578 => (if bt578.1 = 0 then ((spec_l1Rd_pick.f k s0_0 bt578.2 3).bind fun bt580 => (some (IntKind.u64.wrap (bt580.1), bt580.2))) else (if bt578.1 = 1 then ((spec_l1Rd_pick.f k s0_0 bt578.2 3).bind fun bt582 => (some (Go.bits .xor .u64 (IntKind.u64.max) (IntKind.u64.wrap (bt582.1)), bt582.2))) else (spec_l1Rd_word.l0 k 0 0 s0_0 bt578.2)))
/-! ### spec_l1Rd_digest: function 74 -/
def spec_l1Rd_digest.f (k : Nat) (s0_0 : List Int) (s0_1 : Int) : Option (Int × Int × Int × Int × Int) := (spec_l1Rd_word.f k s0_0 s0_1).bind fun bt587 => ((spec_l1Rd_word.f k s0_0 bt587.2).bind fun bt589 => ((spec_l1Rd_word.f k s0_0 bt589.2).bind fun bt591 => ((spec_l1Rd_word.f k s0_0 bt591.2).bind fun bt593 => (some (bt587.1, bt589.1, bt591.1, bt593.1, bt593.2)))))
/-! ### spec_l7Slot: function 65 -/
mutual
def spec_l7Slot.j0 : Nat → Int → List Int → Int → Int → Int → Int → Int → Int → Int → Int → Option (Int × Int × Int × Int × Int × Int × Int × Int)
  | 0, _, _, _, _, _, _, _, _, _, _ => none
  | k + 1, x4, x1000, x1001, x606000, x606001, x606002, x606003, x606004, x606005, x606006 => if x4 = 1 then ((spec_l1Rd_pick.f k x1000 x1001 3).bind fun bt610 => (spec_l7Slot.j1 k x4 x1000 bt610.2 x606000 x606001 (IntKind.u64.wrap (wrap64 (255 + bt610.1))) x606003 x606004 x606005 x606006)) else (spec_l7Slot.j1 k x4 x1000 x1001 x606000 x606001 x606002 x606003 x606004 x606005 x606006)
def spec_l7Slot.j1 : Nat → Int → List Int → Int → Int → Int → Int → Int → Int → Int → Int → Option (Int × Int × Int × Int × Int × Int × Int × Int)
  | 0, _, _, _, _, _, _, _, _, _, _ => none
  | k + 1, x4, x1000, x1001, x606000, x606001, x606002, x606003, x606004, x606005, x606006 => if x4 = 2 then ((spec_l1Rd_word.f k x1000 x1001).bind fun bt612 => (spec_l7Slot.j2 k x4 x1000 bt612.2 x606000 bt612.1 x606002 x606003 x606004 x606005 x606006)) else (spec_l7Slot.j2 k x4 x1000 x1001 x606000 x606001 x606002 x606003 x606004 x606005 x606006)
def spec_l7Slot.j2 : Nat → Int → List Int → Int → Int → Int → Int → Int → Int → Int → Int → Option (Int × Int × Int × Int × Int × Int × Int × Int)
  | 0, _, _, _, _, _, _, _, _, _, _ => none
  | k + 1, x4, x1000, x1001, x606000, x606001, x606002, x606003, x606004, x606005, x606006 => if x4 = 3 then ((spec_l1Rd_word.f k x1000 x1001).bind fun bt614 => (spec_l7Slot.j3 k x1000 bt614.2 x606000 x606001 bt614.1 x606003 x606004 x606005 x606006)) else (spec_l7Slot.j3 k x1000 x1001 x606000 x606001 x606002 x606003 x606004 x606005 x606006)
def spec_l7Slot.j3 : Nat → List Int → Int → Int → Int → Int → Int → Int → Int → Int → Option (Int × Int × Int × Int × Int × Int × Int × Int)
  | 0, _, _, _, _, _, _, _, _, _ => none
  | k + 1, x1000, x1001, x606000, x606001, x606002, x606003, x606004, x606005, x606006 => (spec_SlotSum.f k x606000 x606001 x606002 x606003 x606004 x606005 x606006).bind fun t616 => ((spec_l1Rd_pick.f k x1000 x1001 10).bind fun bt617 => (if bt617.1 = 0 then (spec_l7Slot.j4 k bt617.1 x1000 bt617.2 0 x606001 x606002 x606003 x606004 x606005 x606006) else (spec_l7Slot.j4 k bt617.1 x1000 bt617.2 t616 x606001 x606002 x606003 x606004 x606005 x606006)))
def spec_l7Slot.j4 : Nat → Int → List Int → Int → Int → Int → Int → Int → Int → Int → Int → Option (Int × Int × Int × Int × Int × Int × Int × Int)
  | 0, _, _, _, _, _, _, _, _, _, _ => none
  | k + 1, x5, x1000, x1001, x606000, x606001, x606002, x606003, x606004, x606005, x606006 => if x5 = 1 then ((spec_l1Rd_word.f k x1000 x1001).bind fun bt619 => (spec_l7Slot.j5 k x5 x1000 bt619.2 bt619.1 x606001 x606002 x606003 x606004 x606005 x606006)) else (spec_l7Slot.j5 k x5 x1000 x1001 x606000 x606001 x606002 x606003 x606004 x606005 x606006)
def spec_l7Slot.j5 : Nat → Int → List Int → Int → Int → Int → Int → Int → Int → Int → Int → Option (Int × Int × Int × Int × Int × Int × Int × Int)
  | 0, _, _, _, _, _, _, _, _, _, _ => none
  | k + 1, x5, x1000, x1001, x606000, x606001, x606002, x606003, x606004, x606005, x606006 => if x5 = 2 then (if x5 = 3 then (some (0, 0, 0, 0, 0 + 1, 0, 0, x1001)) else (some (0, 0, 0, 0, 0, 0, 0, x1001))) else (if x5 = 3 then (some (x606000, x606001, x606002, x606003, IntKind.u64.wrap (x606004 + 1), x606005, x606006, x1001)) else (some (x606000, x606001, x606002, x606003, x606004, x606005, x606006, x1001)))
end
def spec_l7Slot.f (k : Nat) (s0_0 : List Int) (s0_1 : Int) : Option (Int × Int × Int × Int × Int × Int × Int × Int) := (spec_l1Rd_pick.f k s0_0 s0_1 6).bind fun bt596 => ((spec_l1Rd_pick.f k s0_0 bt596.2 20).bind fun bt598 => ((spec_l1Rd_digest.f k s0_0 bt598.2).bind fun bt600 => ((spec_l1Rd_pick.f k s0_0 bt600.2.2.2.2 14).bind fun bt606 => (if bt606.1 = 0 then ((spec_l1Rd_pick.f k s0_0 bt606.2 3).bind fun bt608 => (spec_l7Slot.j0 k bt606.1 s0_0 bt608.2 0 (IntKind.u64.wrap (wrap64 (999999999 + bt608.1))) (IntKind.u64.wrap (wrap64 (1 + bt598.1))) bt600.1 bt600.2.1 bt600.2.2.1 bt600.2.2.2.1)) else (spec_l7Slot.j0 k bt606.1 s0_0 bt606.2 0 (IntKind.u64.wrap (wrap64 (1 + bt596.1))) (IntKind.u64.wrap (wrap64 (1 + bt598.1))) bt600.1 bt600.2.1 bt600.2.2.1 bt600.2.2.2.1)))))
/-! ### spec_DrawSlotSum: function 33 -/
def spec_DrawSlotSum.f (k : Nat) (l0 : List Int) : Option (Int × Int × Int × Int × Int × Int × Int) := (spec_l1Open.f l0).bind fun bt622 => ((spec_l7Slot.f k bt622.1 bt622.2).bind fun bt625 => (some (bt625.1, bt625.2.1, bt625.2.2.1, bt625.2.2.2.1, bt625.2.2.2.2.1, bt625.2.2.2.2.2.1, bt625.2.2.2.2.2.2.1)))
/-! ### laws_FnSlotSums: function 8 -/
def laws_FnSlotSums.j0 : Nat → Int → Bool → Int → Int → Int → Int → Int → Int → Int → Option (Bool)
  | 0, _, _, _, _, _, _, _, _, _ => none
  | k + 1, x4, x23, x641000, x641001, x641002, x641003, x641004, x641005, x641006 => if x23 = true then (some false) else (if x641001 ≥ 1 then (if x641001 ≤ 1000000000 then (if x641002 ≥ 1 then ((impl_SlotOk.f k x4 x641001 x641002 x641003 x641004 x641005 x641006).bind fun t646 => (if (t646 == (decide (x641002 ≤ 256))) = true then ((impl_SlotOk.f k 0 x641001 x641002 x641003 x641004 x641005 x641006).bind fun t647 => (if t647 = true then (some false) else ((impl_SlotOk.f k (IntKind.u64.wrap (x4 + 2)) x641001 x641002 x641003 x641004 x641005 x641006).bind fun t648 => (some (!t648))))) else (some false))) else ((impl_SlotOk.f k x4 x641001 x641002 x641003 x641004 x641005 x641006).bind fun t651 => (if (t651 == false) = true then ((impl_SlotOk.f k 0 x641001 x641002 x641003 x641004 x641005 x641006).bind fun t652 => (if t652 = true then (some false) else ((impl_SlotOk.f k (IntKind.u64.wrap (x4 + 2)) x641001 x641002 x641003 x641004 x641005 x641006).bind fun t653 => (some (!t653))))) else (some false)))) else ((impl_SlotOk.f k x4 x641001 x641002 x641003 x641004 x641005 x641006).bind fun t656 => (if (t656 == false) = true then ((impl_SlotOk.f k 0 x641001 x641002 x641003 x641004 x641005 x641006).bind fun t657 => (if t657 = true then (some false) else ((impl_SlotOk.f k (IntKind.u64.wrap (x4 + 2)) x641001 x641002 x641003 x641004 x641005 x641006).bind fun t658 => (some (!t658))))) else (some false)))) else ((impl_SlotOk.f k x4 x641001 x641002 x641003 x641004 x641005 x641006).bind fun t661 => (if (t661 == false) = true then ((impl_SlotOk.f k 0 x641001 x641002 x641003 x641004 x641005 x641006).bind fun t662 => (if t662 = true then (some false) else ((impl_SlotOk.f k (IntKind.u64.wrap (x4 + 2)) x641001 x641002 x641003 x641004 x641005 x641006).bind fun t663 => (some (!t663))))) else (some false))))
def laws_FnSlotSums.f (k : Nat) (l0 : List Int) : Option (Bool) := if (l0.length : Int) > 1048576 then (some true) else ((spec_DrawSlotSum.f k l0).bind fun bt633 => ((impl_SlotSum.f k bt633.1 bt633.2.1 bt633.2.2.1 bt633.2.2.2.1 bt633.2.2.2.2.1 bt633.2.2.2.2.2.1 bt633.2.2.2.2.2.2).bind fun t641 => (if t641 = 0 then (laws_FnSlotSums.j0 k t641 true bt633.1 bt633.2.1 bt633.2.2.1 bt633.2.2.2.1 bt633.2.2.2.2.1 bt633.2.2.2.2.2.1 bt633.2.2.2.2.2.2) else ((spec_SlotSum.f k bt633.1 bt633.2.1 bt633.2.2.1 bt633.2.2.2.1 bt633.2.2.2.2.1 bt633.2.2.2.2.2.1 bt633.2.2.2.2.2.2).bind fun t642 => (laws_FnSlotSums.j0 k t641 (t641 != t642) bt633.1 bt633.2.1 bt633.2.2.1 bt633.2.2.2.1 bt633.2.2.2.2.1 bt633.2.2.2.2.2.1 bt633.2.2.2.2.2.2)))))
/-! ### spec_WitnessHeld: function 34 -/
def spec_WitnessHeld.f (k : Nat) (a0_0 : Int) (a0_1 : Int) (a0_2 : Int) (a0_3 : Int) (a0_4 : Int) (a0_5 : Int) (a0_6 : Int) (a0_7 : Int) (a0_8 : Int) (a0_9 : Int) (a0_10 : Int) (a0_11 : Int) (a0_12 : Int) (a0_13 : Int) : Option (Int × Int × Int × Int × Int) := (spec_RecordRead.f k a0_0 a0_1 a0_2 a0_3 a0_4 a0_5 a0_6 a0_7 a0_8 a0_9 a0_10 a0_11 a0_12 a0_13).bind fun bt666 => (if bt666.2.2.2.2.2.2 = 0 then ((spec_HashOf.f k (⟨#[]⟩ : ByteArray)).bind fun bt674 => (some (0, bt674.1, bt674.2.1, bt674.2.2.1, bt674.2.2.2))) else (some (bt666.2.1, bt666.2.2.1, bt666.2.2.2.1, bt666.2.2.2.2.1, bt666.2.2.2.2.2.1)))
/-! ### impl_WitnessHeld: function 35 -/
def impl_WitnessHeld.f (k : Nat) (a0_0 : Int) (a0_1 : Int) (a0_2 : Int) (a0_3 : Int) (a0_4 : Int) (a0_5 : Int) (a0_6 : Int) (a0_7 : Int) (a0_8 : Int) (a0_9 : Int) (a0_10 : Int) (a0_11 : Int) (a0_12 : Int) (a0_13 : Int) : Option (Int × Int × Int × Int × Int) := (impl_RecordRead.f k a0_0 a0_1 a0_2 a0_3 a0_4 a0_5 a0_6 a0_7 a0_8 a0_9 a0_10 a0_11 a0_12 a0_13).bind fun bt680 => (if bt680.2.2.2.2.2.2 = 0 then ((impl_HashOf.f k (⟨#[]⟩ : ByteArray)).bind fun bt688 => (some (0, bt688.1, bt688.2.1, bt688.2.2.1, bt688.2.2.2))) else (some (bt680.2.1, bt680.2.2.1, bt680.2.2.2.1, bt680.2.2.2.2.1, bt680.2.2.2.2.2.1)))
/-! ### laws_eqPoint: function 36 -/
def laws_eqPoint.f (a0_0 : Int) (a0_1 : Int) (a0_2 : Int) (a0_3 : Int) (a0_4 : Int) (a1_0 : Int) (a1_1 : Int) (a1_2 : Int) (a1_3 : Int) (a1_4 : Int) : Option (Bool) := if a0_0 = a1_0 then ((laws_eqDigest.f a0_1 a0_2 a0_3 a0_4 a1_1 a1_2 a1_3 a1_4).bind fun t694 => (if t694 = true then (some true) else (some false))) else (some false)
/-! ### laws_FnExactWitnessHeld: function 9 -/
def laws_FnExactWitnessHeld.f (k : Nat) (a0_0 : Int) (a0_1 : Int) (a0_2 : Int) (a0_3 : Int) (a0_4 : Int) (a0_5 : Int) (a0_6 : Int) (a0_7 : Int) (a0_8 : Int) (a0_9 : Int) (a0_10 : Int) (a0_11 : Int) (a0_12 : Int) (a0_13 : Int) : Option (Bool) := (laws_toDisk.f a0_0 a0_1 a0_2 a0_3 a0_4 a0_5 a0_6 a0_7 a0_8 a0_9 a0_10 a0_11 a0_12 a0_13).bind fun bt696 => ((spec_WitnessHeld.f k bt696.1 bt696.2.1 bt696.2.2.1 bt696.2.2.2.1 bt696.2.2.2.2.1 bt696.2.2.2.2.2.1 bt696.2.2.2.2.2.2.1 bt696.2.2.2.2.2.2.2.1 bt696.2.2.2.2.2.2.2.2.1 bt696.2.2.2.2.2.2.2.2.2.1 bt696.2.2.2.2.2.2.2.2.2.2.1 bt696.2.2.2.2.2.2.2.2.2.2.2.1 bt696.2.2.2.2.2.2.2.2.2.2.2.2.1 bt696.2.2.2.2.2.2.2.2.2.2.2.2.2).bind fun bt710 => ((laws_toDisk.f a0_0 a0_1 a0_2 a0_3 a0_4 a0_5 a0_6 a0_7 a0_8 a0_9 a0_10 a0_11 a0_12 a0_13).bind fun bt716 => ((impl_WitnessHeld.f k bt716.1 bt716.2.1 bt716.2.2.1 bt716.2.2.2.1 bt716.2.2.2.2.1 bt716.2.2.2.2.2.1 bt716.2.2.2.2.2.2.1 bt716.2.2.2.2.2.2.2.1 bt716.2.2.2.2.2.2.2.2.1 bt716.2.2.2.2.2.2.2.2.2.1 bt716.2.2.2.2.2.2.2.2.2.2.1 bt716.2.2.2.2.2.2.2.2.2.2.2.1 bt716.2.2.2.2.2.2.2.2.2.2.2.2.1 bt716.2.2.2.2.2.2.2.2.2.2.2.2.2).bind fun bt730 => ((laws_eqPoint.f bt730.1 bt730.2.1 bt730.2.2.1 bt730.2.2.2.1 bt730.2.2.2.2 bt710.1 bt710.2.1 bt710.2.2.1 bt710.2.2.2.1 bt710.2.2.2.2).bind fun t736 => (if t736 = true then (some true) else (some false))))))
/-! ### impl_Raw: function 67 -/
def impl_Raw.f (l0 : List (S92)) : Option (List (S92)) := if l0.length ≤ 5864062014805 then some l0 else none
/-! ### laws_markRawS: function 39 -/
def laws_markRawS.l0 : Nat → List (S92) → Int → Int → Option (Int × (List (S92)))
  | 0, _, _, _ => none
  | k + 1, x0, x1, x5 => if x5 < (x0.length : Int) then (if 0 ≤ x5 then ((some (x0.set (x5 : Int).toNat (⟨x1, (rd_T92 x0 x5).f1, (rd_T92 x0 x5).f2⟩ : S92) : List (S92))).bind fun y753 => ((some (y753.set (x5 : Int).toNat (⟨(rd_T92 y753 x5).f0, wrap64 (x1 + 1), (rd_T92 y753 x5).f2⟩ : S92) : List (S92))).bind fun y754 => (laws_markRawS.l0 k (y754.set (x5 : Int).toNat (⟨(rd_T92 y754 x5).f0, (rd_T92 y754 x5).f1, IntKind.u64.wrap (wrap64 ((wrap64 (x1 + 1)) + 1))⟩ : S92)) (wrap64 ((wrap64 ((wrap64 (x1 + 1)) + 1)) + 1)) (wrap64 (x5 + 1))))) else (none)) else (some (x1, x0))
def laws_markRawS.f (k : Nat) (l0 : List (S92)) (a1 : Int) : Option (Int × (List (S92))) := laws_markRawS.l0 k l0 a1 0
/-! ### laws_heldRawS: function 40 -/
def laws_heldRawS.l0 : Nat → List (S92) → Int → Int → Option (Int)
  | 0, _, _, _ => none
  | k + 1, x0, x1, x5 => if x5 < (x0.length : Int) then (if 0 ≤ x5 then (if ((rd_T92 x0 x5).f0) = x1 then (if ((rd_T92 x0 x5).f1) = (wrap64 (x1 + 1)) then (if ((rd_T92 x0 x5).f2) = (IntKind.u64.wrap (wrap64 ((wrap64 (x1 + 1)) + 1))) then (laws_heldRawS.l0 k x0 (wrap64 ((wrap64 ((wrap64 (x1 + 1)) + 1)) + 1)) (wrap64 (x5 + 1))) else (some (-1))) else (some (-1))) else (some (-1))) else (none)) else (some x1)
def laws_heldRawS.f (k : Nat) (l0 : List (S92)) (a1 : Int) : Option (Int) := laws_heldRawS.l0 k l0 a1 0
/-! ### spec_l1In: function 68 -/
def spec_l1In.f (a0 : Int) (a1 : Int) (a2 : Int) : Option (Bool) := if a0 ≥ a1 then (some (decide (a0 ≤ a2))) else (some false)
/-! ### spec_RecordRaws: function 41 -/
def spec_RecordRaws.j0 : Nat → Int → Int → Bool → Int → Int → Int → Int → Int → Int → Int → Int → Int → Int → Option ((List (S92)))
  | 0, _, _, _, _, _, _, _, _, _, _, _, _, _ => none
  | k + 1, x1, x8, x23, x776000, x776001, x776002, x776003, x784000, x784001, x784002, x784003, x784004, x784005 => if x23 = true then (some (([] : List (S92)))) else (if x8 = 1 then ((spec_SlotSum.f k 0 (IntKind.u64.wrap (wrap64 (x784000 + 1))) (IntKind.u64.wrap (x1)) x776000 x776001 x776002 x776003).bind fun t789 => (some (([(⟨2, 0, 0⟩ : S92), (⟨2, 1, IntKind.u64.wrap (wrap64 (x784000 + 1))⟩ : S92), (⟨2, 2, IntKind.u64.wrap (x1)⟩ : S92), (⟨2, 3, x776000⟩ : S92), (⟨2, 4, x776001⟩ : S92), (⟨2, 5, x776002⟩ : S92), (⟨2, 6, x776003⟩ : S92), (⟨2, 0, t789⟩ : S92)] : List (S92))))) else ((spec_SlotSum.f k 0 (IntKind.u64.wrap (wrap64 (x784000 + 1))) (IntKind.u64.wrap (x1)) x776000 x776001 x776002 x776003).bind fun t794 => (some (([(⟨1, 0, 0⟩ : S92), (⟨1, 1, IntKind.u64.wrap (wrap64 (x784000 + 1))⟩ : S92), (⟨1, 2, IntKind.u64.wrap (x1)⟩ : S92), (⟨1, 3, x776000⟩ : S92), (⟨1, 4, x776001⟩ : S92), (⟨1, 5, x776002⟩ : S92), (⟨1, 6, x776003⟩ : S92), (⟨1, 0, t794⟩ : S92)] : List (S92))))))
def spec_RecordRaws.f (k : Nat) (a0_0 : Int) (a0_1 : Int) (a0_2 : Int) (a0_3 : Int) (a0_4 : Int) (a0_5 : Int) (a0_6 : Int) (a0_7 : Int) (a0_8 : Int) (a0_9 : Int) (a0_10 : Int) (a0_11 : Int) (a0_12 : Int) (a0_13 : Int) (a1 : Int) (a2_0 : Int) (a2_1 : Int) (a2_2 : Int) (a2_3 : Int) : Option ((List (S92))) := (spec_RecordRead.f k a0_0 a0_1 a0_2 a0_3 a0_4 a0_5 a0_6 a0_7 a0_8 a0_9 a0_10 a0_11 a0_12 a0_13).bind fun bt776 => ((spec_l1In.f a1 1 256).bind fun t784 => (if t784 = true then (spec_RecordRaws.j0 k a1 bt776.2.2.2.2.2.2 (decide (bt776.1 ≥ 1000000000)) a2_0 a2_1 a2_2 a2_3 bt776.1 bt776.2.1 bt776.2.2.1 bt776.2.2.2.1 bt776.2.2.2.2.1 bt776.2.2.2.2.2.1) else (spec_RecordRaws.j0 k a1 bt776.2.2.2.2.2.2 true a2_0 a2_1 a2_2 a2_3 bt776.1 bt776.2.1 bt776.2.2.1 bt776.2.2.2.1 bt776.2.2.2.2.1 bt776.2.2.2.2.2.1)))
/-! ### laws_szWishS: function 69 -/
def laws_szWishS.f (l0 : List (S130)) (a1 : Int) : Option (Int) := if (wrap64 (a1 - (l0.length : Int))) < 0 then (some (-1)) else (some (wrap64 (a1 - (l0.length : Int))))
/-! ### laws_szWitness: function 44 -/
def laws_szWitness.f (a0_0 : Int) (a0_1 : Int) (a0_2 : Int) (a0_3 : Int) (a0_4 : Int) (a0_5 : Int) (a0_6 : Int) (a0_7 : Int) (a0_8 : Int) (a0_9 : Int) (a0_10 : Int) (a0_11 : Int) (a0_12 : Int) (a0_13 : Int) (l0_14 : List (S130)) (a1 : Int) : Option (Int) := (laws_szWishS.f l0_14 a1).bind fun t856 => (if t856 < 0 then (some (-1)) else (some t856))
/-! ### spec_WitnessOk: function 45 -/
mutual
def spec_WitnessOk.l0 : Nat → Int → Int → Int → Int → Int → Int → Int → Int → Int → Int → Int → Int → Int → Int → Int → List (S108) → Int → Int → Int → Int → Int → Option (Bool)
  | 0, _, _, _, _, _, _, _, _, _, _, _, _, _, _, _, _, _, _, _, _, _ => none
  | k + 1, x4, x858000, x858001, x858002, x858003, x858004, x858005, x858006, x858007, x858008, x858009, x858010, x858011, x858012, x858013, x858014, x864000, x864001, x864002, x864003, x864004 => if x4 < (x858014.length : Int) then (if 0 ≤ x4 then ((spec_l1In.f ((rd_T108 x858014 x4).f0) 1 20).bind fun t866 => (if t866 = true then ((spec_l1In.f ((rd_T108 x858014 x4).f1) 1 1000000).bind fun t867 => (if t867 = true then ((spec_l1In.f ((rd_T108 x858014 x4).f2.f0) (wrap64 (x864000 + 1)) 256).bind fun t868 => (spec_WitnessOk.j1 k x4 (!t868) x858000 x858001 x858002 x858003 x858004 x858005 x858006 x858007 x858008 x858009 x858010 x858011 x858012 x858013 x858014 x864000 x864001 x864002 x864003 x864004 ((rd_T108 x858014 x4).f0) ((rd_T108 x858014 x4).f1) ((rd_T108 x858014 x4).f2.f0) ((rd_T108 x858014 x4).f2.f1.f0) ((rd_T108 x858014 x4).f2.f1.f1) ((rd_T108 x858014 x4).f2.f1.f2) ((rd_T108 x858014 x4).f2.f1.f3))) else (spec_WitnessOk.j1 k x4 true x858000 x858001 x858002 x858003 x858004 x858005 x858006 x858007 x858008 x858009 x858010 x858011 x858012 x858013 x858014 x864000 x864001 x864002 x864003 x864004 ((rd_T108 x858014 x4).f0) ((rd_T108 x858014 x4).f1) ((rd_T108 x858014 x4).f2.f0) ((rd_T108 x858014 x4).f2.f1.f0) ((rd_T108 x858014 x4).f2.f1.f1) ((rd_T108 x858014 x4).f2.f1.f2) ((rd_T108 x858014 x4).f2.f1.f3)))) else (spec_WitnessOk.j1 k x4 true x858000 x858001 x858002 x858003 x858004 x858005 x858006 x858007 x858008 x858009 x858010 x858011 x858012 x858013 x858014 x864000 x864001 x864002 x864003 x864004 ((rd_T108 x858014 x4).f0) ((rd_T108 x858014 x4).f1) ((rd_T108 x858014 x4).f2.f0) ((rd_T108 x858014 x4).f2.f1.f0) ((rd_T108 x858014 x4).f2.f1.f1) ((rd_T108 x858014 x4).f2.f1.f2) ((rd_T108 x858014 x4).f2.f1.f3)))) else (none)) else (some true)
def spec_WitnessOk.j1 : Nat → Int → Bool → Int → Int → Int → Int → Int → Int → Int → Int → Int → Int → Int → Int → Int → Int → List (S108) → Int → Int → Int → Int → Int → Int → Int → Int → Int → Int → Int → Int → Option (Bool)
  | 0, _, _, _, _, _, _, _, _, _, _, _, _, _, _, _, _, _, _, _, _, _, _, _, _, _, _, _, _, _ => none
  | k + 1, x4, x44, x858000, x858001, x858002, x858003, x858004, x858005, x858006, x858007, x858008, x858009, x858010, x858011, x858012, x858013, x858014, x864000, x864001, x864002, x864003, x864004, x866000, x866001, x866002, x866003, x866004, x866005, x866006 => if x44 = true then (some false) else (if x4 > 0 then (if 0 ≤ (wrap64 (x4 - 1)) then (if (wrap64 (x4 - 1)) < (x858014.length : Int) then (if ((rd_T108 x858014 (wrap64 (x4 - 1))).f0) ≥ x866000 then (some false) else (spec_WitnessOk.l0 k (wrap64 (x4 + 1)) x858000 x858001 x858002 x858003 x858004 x858005 x858006 x858007 x858008 x858009 x858010 x858011 x858012 x858013 x858014 x864000 x864001 x864002 x864003 x864004)) else (none)) else (none)) else (spec_WitnessOk.l0 k (wrap64 (x4 + 1)) x858000 x858001 x858002 x858003 x858004 x858005 x858006 x858007 x858008 x858009 x858010 x858011 x858012 x858013 x858014 x864000 x864001 x864002 x864003 x864004))
end
def spec_WitnessOk.f (k : Nat) (a0_0 : Int) (a0_1 : Int) (a0_2 : Int) (a0_3 : Int) (a0_4 : Int) (a0_5 : Int) (a0_6 : Int) (a0_7 : Int) (a0_8 : Int) (a0_9 : Int) (a0_10 : Int) (a0_11 : Int) (a0_12 : Int) (a0_13 : Int) (l0_14 : List (S108)) : Option (Bool) := if (l0_14.length : Int) > 8 then (some false) else ((spec_WitnessHeld.f k a0_0 a0_1 a0_2 a0_3 a0_4 a0_5 a0_6 a0_7 a0_8 a0_9 a0_10 a0_11 a0_12 a0_13).bind fun bt858 => (spec_WitnessOk.l0 k 0 a0_0 a0_1 a0_2 a0_3 a0_4 a0_5 a0_6 a0_7 a0_8 a0_9 a0_10 a0_11 a0_12 a0_13 l0_14 bt858.1 bt858.2.1 bt858.2.2.1 bt858.2.2.2.1 bt858.2.2.2.2))
/-! ### laws_toPoint: function 87 -/
def laws_toPoint.f (a0_0 : Int) (a0_1 : Int) (a0_2 : Int) (a0_3 : Int) (a0_4 : Int) : Option (Int × Int × Int × Int × Int) := (laws_toDigest.f a0_1 a0_2 a0_3 a0_4).bind fun bt873 => (some (a0_0, bt873.1, bt873.2.1, bt873.2.2.1, bt873.2.2.2))
/-! ### laws_toWish: function 82 -/
def laws_toWish.f (a0_0 : Int) (a0_1 : Int) (a0_2 : Int) (a0_3 : Int) (a0_4 : Int) (a0_5 : Int) (a0_6 : Int) : Option (Int × Int × Int × Int × Int × Int × Int) := (laws_toPoint.f a0_2 a0_3 a0_4 a0_5 a0_6).bind fun bt880 => (some (a0_0, a0_1, bt880.1, bt880.2.1, bt880.2.2.1, bt880.2.2.2.1, bt880.2.2.2.2))
/-! ### laws_toWishS: function 70 -/
def laws_toWishS.l0 : Nat → List (S130) → List (S108) → Int → Option ((List (S108)))
  | 0, _, _, _ => none
  | k + 1, x0, x3, x4 => if x4 < (x0.length : Int) then (if 0 ≤ x4 then ((laws_toWish.f ((rd_T130 x0 x4).f0) ((rd_T130 x0 x4).f1) ((rd_T130 x0 x4).f2.f0) ((rd_T130 x0 x4).f2.f1.f0) ((rd_T130 x0 x4).f2.f1.f1) ((rd_T130 x0 x4).f2.f1.f2) ((rd_T130 x0 x4).f2.f1.f3)).bind fun bt889 => (if x4 < (x3.length : Int) then (laws_toWishS.l0 k x0 (x3.set (x4 : Int).toNat (⟨bt889.1, bt889.2.1, (⟨bt889.2.2.1, (⟨bt889.2.2.2.1, bt889.2.2.2.2.1, bt889.2.2.2.2.2.1, bt889.2.2.2.2.2.2⟩ : S28)⟩ : S59)⟩ : S108)) (wrap64 (x4 + 1))) else (none))) else (none)) else (some x3)
def laws_toWishS.f (k : Nat) (l0 : List (S130)) : Option ((List (S108))) := if 0 ≤ (l0.length : Int) then (if ((l0.length : Int) : Int).toNat ≤ 5026338869833 then (laws_toWishS.l0 k l0 (List.replicate ((l0.length : Int) : Int).toNat z108) 0) else (none)) else (none)
/-! ### laws_toWitness: function 46 -/
def laws_toWitness.f (k : Nat) (a0_0 : Int) (a0_1 : Int) (a0_2 : Int) (a0_3 : Int) (a0_4 : Int) (a0_5 : Int) (a0_6 : Int) (a0_7 : Int) (a0_8 : Int) (a0_9 : Int) (a0_10 : Int) (a0_11 : Int) (a0_12 : Int) (a0_13 : Int) (l0_14 : List (S130)) : Option (Int × Int × Int × Int × Int × Int × Int × Int × Int × Int × Int × Int × Int × Int × (List (S108))) := (laws_toDisk.f a0_0 a0_1 a0_2 a0_3 a0_4 a0_5 a0_6 a0_7 a0_8 a0_9 a0_10 a0_11 a0_12 a0_13).bind fun bt900 => ((laws_toWishS.f k l0_14).bind fun t914 => (some (bt900.1, bt900.2.1, bt900.2.2.1, bt900.2.2.2.1, bt900.2.2.2.2.1, bt900.2.2.2.2.2.1, bt900.2.2.2.2.2.2.1, bt900.2.2.2.2.2.2.2.1, bt900.2.2.2.2.2.2.2.2.1, bt900.2.2.2.2.2.2.2.2.2.1, bt900.2.2.2.2.2.2.2.2.2.2.1, bt900.2.2.2.2.2.2.2.2.2.2.2.1, bt900.2.2.2.2.2.2.2.2.2.2.2.2.1, bt900.2.2.2.2.2.2.2.2.2.2.2.2.2, t914)))
/-! ### impl_WitnessOk: function 47 -/
def impl_WitnessOk.l0 : Nat → List (S108) → Int → Int → Int → Int → Int → Int → Int → Int → Int → Int → Int → Int → Int → Int → Int → Int → List (S108) → Int → Int → Int → Int → Int → Option (Bool)
  | 0, _, _, _, _, _, _, _, _, _, _, _, _, _, _, _, _, _, _, _, _, _, _, _ => none
  | k + 1, x10, x11, x12, x918000, x918001, x918002, x918003, x918004, x918005, x918006, x918007, x918008, x918009, x918010, x918011, x918012, x918013, x918014, x924000, x924001, x924002, x924003, x924004 => if x12 < x11 then (if 0 ≤ x12 then (if x12 < (x10.length : Int) then ((impl_in.f ((rd_T108 x10 x12).f0) 1 20).bind fun t926 => (if t926 = true then (if x12 > 0 then (if 0 ≤ (wrap64 (x12 - 1)) then (if (wrap64 (x12 - 1)) < (x918014.length : Int) then (if ((rd_T108 x918014 (wrap64 (x12 - 1))).f0) ≥ ((rd_T108 x10 x12).f0) then (some false) else ((impl_in.f ((rd_T108 x10 x12).f1) 1 1000000).bind fun t928 => (if t928 = true then ((impl_in.f ((rd_T108 x10 x12).f2.f0) (wrap64 (x924000 + 1)) 256).bind fun t929 => (if t929 = true then (impl_WitnessOk.l0 k x10 x11 (wrap64 (x12 + 1)) x918000 x918001 x918002 x918003 x918004 x918005 x918006 x918007 x918008 x918009 x918010 x918011 x918012 x918013 x918014 x924000 x924001 x924002 x924003 x924004) else (some false))) else (some false)))) else (none)) else (none)) else ((impl_in.f ((rd_T108 x10 x12).f1) 1 1000000).bind fun t930 => (if t930 = true then ((impl_in.f ((rd_T108 x10 x12).f2.f0) (wrap64 (x924000 + 1)) 256).bind fun t931 => (if t931 = true then (impl_WitnessOk.l0 k x10 x11 (wrap64 (x12 + 1)) x918000 x918001 x918002 x918003 x918004 x918005 x918006 x918007 x918008 x918009 x918010 x918011 x918012 x918013 x918014 x924000 x924001 x924002 x924003 x924004) else (some false))) else (some false)))) else (some false))) else (none)) else (none)) else (some (decide ((x918014.length : Int) ≤ 8)))
def impl_WitnessOk.f (k : Nat) (a0_0 : Int) (a0_1 : Int) (a0_2 : Int) (a0_3 : Int) (a0_4 : Int) (a0_5 : Int) (a0_6 : Int) (a0_7 : Int) (a0_8 : Int) (a0_9 : Int) (a0_10 : Int) (a0_11 : Int) (a0_12 : Int) (a0_13 : Int) (l0_14 : List (S108)) : Option (Bool) := (impl_WitnessHeld.f k a0_0 a0_1 a0_2 a0_3 a0_4 a0_5 a0_6 a0_7 a0_8 a0_9 a0_10 a0_11 a0_12 a0_13).bind fun bt918 => (impl_WitnessOk.l0 k l0_14 (l0_14.length : Int) 0 a0_0 a0_1 a0_2 a0_3 a0_4 a0_5 a0_6 a0_7 a0_8 a0_9 a0_10 a0_11 a0_12 a0_13 l0_14 bt918.1 bt918.2.1 bt918.2.2.1 bt918.2.2.2.1 bt918.2.2.2.2)
/-! ### laws_eqWish: function 83 -/
def laws_eqWish.f (a0_0 : Int) (a0_1 : Int) (a0_2 : Int) (a0_3 : Int) (a0_4 : Int) (a0_5 : Int) (a0_6 : Int) (a1_0 : Int) (a1_1 : Int) (a1_2 : Int) (a1_3 : Int) (a1_4 : Int) (a1_5 : Int) (a1_6 : Int) : Option (Bool) := if a0_0 = a1_0 then (if a0_1 = a1_1 then ((laws_eqPoint.f a0_2 a0_3 a0_4 a0_5 a0_6 a1_2 a1_3 a1_4 a1_5 a1_6).bind fun t934 => (if t934 = true then (some true) else (some false))) else (some false)) else (some false)
/-! ### laws_eqWishS: function 71 -/
def laws_eqWishS.l0 : Nat → List (S108) → List (S108) → Int → Option (Bool)
  | 0, _, _, _ => none
  | k + 1, x0, x1, x5 => if x5 < (x0.length : Int) then (if 0 ≤ x5 then (if x5 < (x1.length : Int) then ((laws_eqWish.f ((rd_T108 x0 x5).f0) ((rd_T108 x0 x5).f1) ((rd_T108 x0 x5).f2.f0) ((rd_T108 x0 x5).f2.f1.f0) ((rd_T108 x0 x5).f2.f1.f1) ((rd_T108 x0 x5).f2.f1.f2) ((rd_T108 x0 x5).f2.f1.f3) ((rd_T108 x1 x5).f0) ((rd_T108 x1 x5).f1) ((rd_T108 x1 x5).f2.f0) ((rd_T108 x1 x5).f2.f1.f0) ((rd_T108 x1 x5).f2.f1.f1) ((rd_T108 x1 x5).f2.f1.f2) ((rd_T108 x1 x5).f2.f1.f3)).bind fun t937 => (if t937 = true then (laws_eqWishS.l0 k x0 x1 (wrap64 (x5 + 1))) else (some false))) else (none)) else (none)) else (some true)
def laws_eqWishS.f (k : Nat) (l0 : List (S108)) (l1 : List (S108)) : Option (Bool) := if (l0.length : Int) = (l1.length : Int) then (laws_eqWishS.l0 k l0 l1 0) else (some false)
/-! ### laws_eqWitness: function 48 -/
def laws_eqWitness.f (k : Nat) (a0_0 : Int) (a0_1 : Int) (a0_2 : Int) (a0_3 : Int) (a0_4 : Int) (a0_5 : Int) (a0_6 : Int) (a0_7 : Int) (a0_8 : Int) (a0_9 : Int) (a0_10 : Int) (a0_11 : Int) (a0_12 : Int) (a0_13 : Int) (l0_14 : List (S108)) (a1_0 : Int) (a1_1 : Int) (a1_2 : Int) (a1_3 : Int) (a1_4 : Int) (a1_5 : Int) (a1_6 : Int) (a1_7 : Int) (a1_8 : Int) (a1_9 : Int) (a1_10 : Int) (a1_11 : Int) (a1_12 : Int) (a1_13 : Int) (l1_14 : List (S108)) : Option (Bool) := (laws_eqDisk.f a0_0 a0_1 a0_2 a0_3 a0_4 a0_5 a0_6 a0_7 a0_8 a0_9 a0_10 a0_11 a0_12 a0_13 a1_0 a1_1 a1_2 a1_3 a1_4 a1_5 a1_6 a1_7 a1_8 a1_9 a1_10 a1_11 a1_12 a1_13).bind fun t940 => (if t940 = true then ((laws_eqWishS.f k l0_14 l1_14).bind fun t941 => (if t941 = true then (some true) else (some false))) else (some false))
/-! ### laws_FnExactWitnessOk: function 12 -/
def laws_FnExactWitnessOk.f (k : Nat) (a0_0 : Int) (a0_1 : Int) (a0_2 : Int) (a0_3 : Int) (a0_4 : Int) (a0_5 : Int) (a0_6 : Int) (a0_7 : Int) (a0_8 : Int) (a0_9 : Int) (a0_10 : Int) (a0_11 : Int) (a0_12 : Int) (a0_13 : Int) (l0_14 : List (S130)) : Option (Bool) := (laws_szWitness.f a0_0 a0_1 a0_2 a0_3 a0_4 a0_5 a0_6 a0_7 a0_8 a0_9 a0_10 a0_11 a0_12 a0_13 l0_14 1048576).bind fun t943 => (if t943 < 0 then (some true) else ((laws_toWitness.f k a0_0 a0_1 a0_2 a0_3 a0_4 a0_5 a0_6 a0_7 a0_8 a0_9 a0_10 a0_11 a0_12 a0_13 l0_14).bind fun bt944 => ((spec_WitnessOk.f k bt944.1 bt944.2.1 bt944.2.2.1 bt944.2.2.2.1 bt944.2.2.2.2.1 bt944.2.2.2.2.2.1 bt944.2.2.2.2.2.2.1 bt944.2.2.2.2.2.2.2.1 bt944.2.2.2.2.2.2.2.2.1 bt944.2.2.2.2.2.2.2.2.2.1 bt944.2.2.2.2.2.2.2.2.2.2.1 bt944.2.2.2.2.2.2.2.2.2.2.2.1 bt944.2.2.2.2.2.2.2.2.2.2.2.2.1 bt944.2.2.2.2.2.2.2.2.2.2.2.2.2.1 bt944.2.2.2.2.2.2.2.2.2.2.2.2.2.2).bind fun t961 => ((laws_toWitness.f k a0_0 a0_1 a0_2 a0_3 a0_4 a0_5 a0_6 a0_7 a0_8 a0_9 a0_10 a0_11 a0_12 a0_13 l0_14).bind fun bt962 => ((impl_WitnessOk.f k bt962.1 bt962.2.1 bt962.2.2.1 bt962.2.2.2.1 bt962.2.2.2.2.1 bt962.2.2.2.2.2.1 bt962.2.2.2.2.2.2.1 bt962.2.2.2.2.2.2.2.1 bt962.2.2.2.2.2.2.2.2.1 bt962.2.2.2.2.2.2.2.2.2.1 bt962.2.2.2.2.2.2.2.2.2.2.1 bt962.2.2.2.2.2.2.2.2.2.2.2.1 bt962.2.2.2.2.2.2.2.2.2.2.2.2.1 bt962.2.2.2.2.2.2.2.2.2.2.2.2.2.1 bt962.2.2.2.2.2.2.2.2.2.2.2.2.2.2).bind fun t980 => (if (t980 != t961) = true then (some false) else ((laws_toWitness.f k a0_0 a0_1 a0_2 a0_3 a0_4 a0_5 a0_6 a0_7 a0_8 a0_9 a0_10 a0_11 a0_12 a0_13 l0_14).bind fun bt981 => ((laws_eqWitness.f k bt962.1 bt962.2.1 bt962.2.2.1 bt962.2.2.2.1 bt962.2.2.2.2.1 bt962.2.2.2.2.2.1 bt962.2.2.2.2.2.2.1 bt962.2.2.2.2.2.2.2.1 bt962.2.2.2.2.2.2.2.2.1 bt962.2.2.2.2.2.2.2.2.2.1 bt962.2.2.2.2.2.2.2.2.2.2.1 bt962.2.2.2.2.2.2.2.2.2.2.2.1 bt962.2.2.2.2.2.2.2.2.2.2.2.2.1 bt962.2.2.2.2.2.2.2.2.2.2.2.2.2.1 bt962.2.2.2.2.2.2.2.2.2.2.2.2.2.2 bt981.1 bt981.2.1 bt981.2.2.1 bt981.2.2.2.1 bt981.2.2.2.2.1 bt981.2.2.2.2.2.1 bt981.2.2.2.2.2.2.1 bt981.2.2.2.2.2.2.2.1 bt981.2.2.2.2.2.2.2.2.1 bt981.2.2.2.2.2.2.2.2.2.1 bt981.2.2.2.2.2.2.2.2.2.2.1 bt981.2.2.2.2.2.2.2.2.2.2.2.1 bt981.2.2.2.2.2.2.2.2.2.2.2.2.1 bt981.2.2.2.2.2.2.2.2.2.2.2.2.2.1 bt981.2.2.2.2.2.2.2.2.2.2.2.2.2.2).bind fun t998 => (if t998 = true then (some true) else (some false))))))))))
/-! ### spec_l7Disk: function 72 -/
def spec_l7Disk.l0 : Nat → Int → List Int → Int → Int → Int → Int → Int → Int → Int → Int → Int → Int → Int → Int → Int → Int → Int → Option (Int × Int × Int × Int × Int × Int × Int × Int × Int × Int × Int × Int × Int × Int × Int)
  | 0, _, _, _, _, _, _, _, _, _, _, _, _, _, _, _, _, _ => none
  | k + 1, x5, x1000, x1001, x1020000, x1020001, x1020002, x1020003, x1020004, x1020005, x1020006, x1020007, x1020008, x1020009, x1020010, x1020011, x1020012, x1020013 => if x5 > 0 then ((spec_l1Rd_pick.f k x1000 x1001 20).bind fun bt1022 => ((spec_l1Rd_digest.f k x1000 bt1022.2).bind fun bt1024 => ((spec_RecordRaws.f k x1020000 x1020001 x1020002 x1020003 x1020004 x1020005 x1020006 x1020007 x1020008 x1020009 x1020010 x1020011 x1020012 x1020013 (wrap64 (1 + bt1022.1)) bt1024.1 bt1024.2.1 bt1024.2.2.1 bt1024.2.2.2.1).bind fun t1029 => ((spec_RecordCut.f k x1020000 x1020001 x1020002 x1020003 x1020004 x1020005 x1020006 x1020007 x1020008 x1020009 x1020010 x1020011 x1020012 x1020013 t1029 8).bind fun bt1032 => (spec_l7Disk.l0 k (wrap64 (x5 - 1)) x1000 bt1024.2.2.2.2 bt1032.1 bt1032.2.1 bt1032.2.2.1 bt1032.2.2.2.1 bt1032.2.2.2.2.1 bt1032.2.2.2.2.2.1 bt1032.2.2.2.2.2.2.1 bt1032.2.2.2.2.2.2.2.1 bt1032.2.2.2.2.2.2.2.2.1 bt1032.2.2.2.2.2.2.2.2.2.1 bt1032.2.2.2.2.2.2.2.2.2.2.1 bt1032.2.2.2.2.2.2.2.2.2.2.2.1 bt1032.2.2.2.2.2.2.2.2.2.2.2.2.1 bt1032.2.2.2.2.2.2.2.2.2.2.2.2.2))))) else ((spec_l1Rd_pick.f k x1000 x1001 3).bind fun bt1046 => (if bt1046.1 = 0 then ((spec_l1Rd_pick.f k x1000 bt1046.2 20).bind fun bt1048 => ((spec_l1Rd_digest.f k x1000 bt1048.2).bind fun bt1050 => ((spec_RecordRaws.f k x1020000 x1020001 x1020002 x1020003 x1020004 x1020005 x1020006 x1020007 x1020008 x1020009 x1020010 x1020011 x1020012 x1020013 (wrap64 (1 + bt1048.1)) bt1050.1 bt1050.2.1 bt1050.2.2.1 bt1050.2.2.2.1).bind fun t1055 => ((spec_l1Rd_pick.f k x1000 bt1050.2.2.2.2 9).bind fun bt1058 => ((spec_RecordCut.f k x1020000 x1020001 x1020002 x1020003 x1020004 x1020005 x1020006 x1020007 x1020008 x1020009 x1020010 x1020011 x1020012 x1020013 t1055 bt1058.1).bind fun bt1060 => (some (bt1060.1, bt1060.2.1, bt1060.2.2.1, bt1060.2.2.2.1, bt1060.2.2.2.2.1, bt1060.2.2.2.2.2.1, bt1060.2.2.2.2.2.2.1, bt1060.2.2.2.2.2.2.2.1, bt1060.2.2.2.2.2.2.2.2.1, bt1060.2.2.2.2.2.2.2.2.2.1, bt1060.2.2.2.2.2.2.2.2.2.2.1, bt1060.2.2.2.2.2.2.2.2.2.2.2.1, bt1060.2.2.2.2.2.2.2.2.2.2.2.2.1, bt1060.2.2.2.2.2.2.2.2.2.2.2.2.2, bt1058.2))))))) else (some (x1020000, x1020001, x1020002, x1020003, x1020004, x1020005, x1020006, x1020007, x1020008, x1020009, x1020010, x1020011, x1020012, x1020013, bt1046.2))))
def spec_l7Disk.f (k : Nat) (s0_0 : List Int) (s0_1 : Int) : Option (Int × Int × Int × Int × Int × Int × Int × Int × Int × Int × Int × Int × Int × Int × Int) := (spec_l1Rd_pick.f k s0_0 s0_1 3).bind fun bt1000 => (if bt1000.1 = 0 then ((spec_l7Slot.f k s0_0 bt1000.2).bind fun bt1002 => ((spec_l7Slot.f k s0_0 bt1002.2.2.2.2.2.2.2).bind fun bt1011 => (some (bt1002.1, bt1002.2.1, bt1002.2.2.1, bt1002.2.2.2.1, bt1002.2.2.2.2.1, bt1002.2.2.2.2.2.1, bt1002.2.2.2.2.2.2.1, bt1011.1, bt1011.2.1, bt1011.2.2.1, bt1011.2.2.2.1, bt1011.2.2.2.2.1, bt1011.2.2.2.2.2.1, bt1011.2.2.2.2.2.2.1, bt1011.2.2.2.2.2.2.2)))) else ((spec_l1Rd_pick.f k s0_0 bt1000.2 4).bind fun bt1020 => (spec_l7Disk.l0 k bt1020.1 s0_0 bt1020.2 0 0 0 0 0 0 0 0 0 0 0 0 0 0)))
/-! ### spec_DrawRecordRaws: function 49 -/
def spec_DrawRecordRaws.f (k : Nat) (l0 : List Int) : Option (Int × Int × Int × Int × Int × Int × Int × Int × Int × Int × Int × Int × Int × Int × Int × Int × Int × Int × Int) := (spec_l1Open.f l0).bind fun bt1076 => ((spec_l7Disk.f k bt1076.1 bt1076.2).bind fun bt1079 => ((spec_l1Rd_pick.f k bt1076.1 bt1079.2.2.2.2.2.2.2.2.2.2.2.2.2.2 20).bind fun bt1095 => ((spec_l1Rd_pick.f k bt1076.1 bt1095.2 8).bind fun bt1097 => (if bt1097.1 = 0 then ((some (([(-1), 0, 256, 257] : List Int) : List Int)).bind fun y1099 => ((spec_l1Rd_pick.f k bt1076.1 bt1097.2 4).bind fun bt1102 => (if 0 ≤ bt1102.1 then (if bt1102.1 < (y1099.length : Int) then ((spec_l1Rd_digest.f k bt1076.1 bt1102.2).bind fun bt1105 => (some (bt1079.1, bt1079.2.1, bt1079.2.2.1, bt1079.2.2.2.1, bt1079.2.2.2.2.1, bt1079.2.2.2.2.2.1, bt1079.2.2.2.2.2.2.1, bt1079.2.2.2.2.2.2.2.1, bt1079.2.2.2.2.2.2.2.2.1, bt1079.2.2.2.2.2.2.2.2.2.1, bt1079.2.2.2.2.2.2.2.2.2.2.1, bt1079.2.2.2.2.2.2.2.2.2.2.2.1, bt1079.2.2.2.2.2.2.2.2.2.2.2.2.1, bt1079.2.2.2.2.2.2.2.2.2.2.2.2.2.1, rd y1099 bt1102.1, bt1105.1, bt1105.2.1, bt1105.2.2.1, bt1105.2.2.2.1))) else (none)) else (none)))) else ((spec_l1Rd_digest.f k bt1076.1 bt1097.2).bind fun bt1110 => (some (bt1079.1, bt1079.2.1, bt1079.2.2.1, bt1079.2.2.2.1, bt1079.2.2.2.2.1, bt1079.2.2.2.2.2.1, bt1079.2.2.2.2.2.2.1, bt1079.2.2.2.2.2.2.2.1, bt1079.2.2.2.2.2.2.2.2.1, bt1079.2.2.2.2.2.2.2.2.2.1, bt1079.2.2.2.2.2.2.2.2.2.2.1, bt1079.2.2.2.2.2.2.2.2.2.2.2.1, bt1079.2.2.2.2.2.2.2.2.2.2.2.2.1, bt1079.2.2.2.2.2.2.2.2.2.2.2.2.2.1, wrap64 (1 + bt1095.1), bt1110.1, bt1110.2.1, bt1110.2.2.1, bt1110.2.2.2.1)))))))
/-! ### spec_DrawRecordMend: function 50 -/
def spec_DrawRecordMend.f (k : Nat) (l0 : List Int) : Option (Int × Int × Int × Int × Int × Int × Int × Int × Int × Int × Int × Int × Int × Int) := (spec_l1Open.f l0).bind fun bt1137 => ((spec_l7Disk.f k bt1137.1 bt1137.2).bind fun bt1140 => (some (bt1140.1, bt1140.2.1, bt1140.2.2.1, bt1140.2.2.2.1, bt1140.2.2.2.2.1, bt1140.2.2.2.2.2.1, bt1140.2.2.2.2.2.2.1, bt1140.2.2.2.2.2.2.2.1, bt1140.2.2.2.2.2.2.2.2.1, bt1140.2.2.2.2.2.2.2.2.2.1, bt1140.2.2.2.2.2.2.2.2.2.2.1, bt1140.2.2.2.2.2.2.2.2.2.2.2.1, bt1140.2.2.2.2.2.2.2.2.2.2.2.2.1, bt1140.2.2.2.2.2.2.2.2.2.2.2.2.2.1)))
/-! ### laws_at: function 51 -/
def laws_at.f (l0 : List Int) (a1 : Int) : Option (Int) := if (l0.length : Int) = 0 then (some ((wrap64 (a1 * 37)) % 256)) else (if a1 < (l0.length : Int) then (if 0 ≤ a1 then (some (rd l0 a1)) else (none)) else (if 0 ≤ (Int.tmod a1 (l0.length : Int)) then (if (Int.tmod a1 (l0.length : Int)) < (l0.length : Int) then (if 0 ≤ (Int.tmod (wrap64 ((wrap64 (a1 * 5)) + 1)) (l0.length : Int)) then (if (Int.tmod (wrap64 ((wrap64 (a1 * 5)) + 1)) (l0.length : Int)) < (l0.length : Int) then (some (((((((rd l0 (Int.tmod a1 (l0.length : Int))) * 31) % 256) + (rd l0 (Int.tmod (wrap64 ((wrap64 (a1 * 5)) + 1)) (l0.length : Int)))) % 256) + ((a1) % 256)) % 256)) else (none)) else (none)) else (none)) else (none)))
end Go.Proofs.Ytcgfgodpiobcfaa.Q

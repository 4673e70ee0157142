/- What functions of the given program compute, as Lean functions over numbers and lists; written by a program of this session's. No condition. -/
import Derived.Test.YtpdcdajccfccbaaProg
import Derived.Below
import Derived.Deep.Draws
import Derived.Deep.AppendLies
import Derived.Maps.AppendAt
import Derived.OwnWalk
import Derived.Laws.BytesArg
import Derived.Laws.MakeOwn
import Derived.Laws.OwnMore
import Derived.Deep.OwnRows
import Derived.Tactics
import Derived.Lib.ConvBytes
import Derived.Laws.Slices
import Derived.WalkKit
import Derived.KernelRfl
import Derived.RowKit3
import Derived.Deep.LoopGhost
import Derived.Deep.QuietTactic
import Derived.BigQuiet
import Derived.WideLaws
import Derived.Deep.DeepCutAuto
import Derived.Deep.CutBlock
import Derived.Deep.RegionHeld3
import Derived.Laws.Rows
import Derived.Lib.AppendStr
import Derived.ArgAppend
import Derived.Laws.IdiomCopy
import Derived.OrdersHeld
import Derived.Laws.BitsLemmas
import Derived.RowKit
import Derived.Test.YtpdcdajccfccbaaWWords
import Derived.Test.YtpdcdajccfccbaaWLast
import Derived.Test.YtpdcdajccfccbaaWTab
import Derived.Test.YtpdcdajccfccbaaWFour
import Derived.Test.YtpdcdajccfccbaaWQPut
import Derived.Test.YtpdcdajccfccbaaWApart
import Derived.Test.YtpdcdajccfccbaaWArr
import Derived.Test.YtpdcdajccfccbaaWZeros
import Derived.Test.YtpdcdajccfccbaaWFoot
import Derived.Test.YtpdcdajccfccbaaWKept
import Derived.Test.YtpdcdajccfccbaaWShare
import Derived.Test.YtpdcdajccfccbaaWN
import Derived.Test.YtpdcdajccfccbaaWFootNe
import Derived.Test.YtpdcdajccfccbaaWAt
import Derived.Test.YtpdcdajccfccbaaWEqStruct
import Derived.Test.YtpdcdajccfccbaaWRepsOne
import Derived.Test.YtpdcdajccfccbaaWInv
import Derived.Test.YtpdcdajccfccbaaWInvWords
import Derived.Test.YtpdcdajccfccbaaWGuard
import Derived.Test.YtpdcdajccfccbaaWNEv
import Derived.Test.YtpdcdajccfccbaaWMore
import Derived.Test.YtpdcdajccfccbaaWCopy
namespace Go.Proofs.Ytpdcdajccfccbaa.Q
open Go.RowKit Go.Proofs.YtpdcdajccfccbaaW.PrintWords Go.Proofs.YtpdcdajccfccbaaW.PrintLast Go.Proofs.YtpdcdajccfccbaaW.PrintMore
attribute [local go_sem] max2_int min2_int max_two min_two max_three min_three max_four min_four   -- for this text's walks alone
set_option linter.unusedVariables false
set_option linter.unusedSimpArgs false



def errW : Option Int → Value
  | none => .nilIface
  | some c => .iface 0 (.int .i64 c)
theorem errW_none : errW none = .nilIface := rfl
theorem errW_some (c : Int) : errW (some c) = .iface 0 (.int .i64 c) := rfl

theorem info3 : (Try.prog.info? 3).map (fun i => (i.zero, i.size, i.bytes)) = some (some (.int .i64 0), 1, 8) := by kernel_rfl
-- the values' own types


/-! ### spec_l1In: function 37 -/
def spec_l1In.f (a0 : Int) (a1 : Int) (a2 : Int) : Option (Bool) := if a0 ≥ a1 then (some (decide (a0 ≤ a2))) else (some false)
/-! ### spec_l10Pins: function 47 -/
def spec_l10Pins.f (a0_0 : Int) (a0_1 : Int) (a0_2 : Int) (a0_3 : Int) (a0_4 : Int) : Option (Bool) := (spec_l1In.f a0_0 1 256).bind fun t102 => (if t102 = true then (some true) else (some (a0_0 == 0 && ((a0_1 == 0 && (a0_2 == 0 && (a0_3 == 0 && (a0_4 == 0))))))))
/-! ### spec_ClientOk: function 34 -/
mutual
def spec_ClientOk.j0 : Nat → Bool → Int → Int → Int → Int → Int → Int → Int → Int → Int → List Int → Int → Int → Int → Int → Int → Option (Bool)
  | 0, _, _, _, _, _, _, _, _, _, _, _, _, _, _, _, _ => none
  | k + 1, x23, x104000, x104001, x104002, x104003, x104004, x104005, x104006, x104007, x104008, x104009, x104010, x104011, x104012, x104013, x104014 => if x23 = true then (some false) else ((spec_l1In.f x104002 0 1000000).bind fun t106 => (if t106 = true then ((spec_l10Pins.f x104010 x104011 x104012 x104013 x104014).bind fun t107 => (spec_ClientOk.j1 k (!t107) x104000 x104001 x104002 x104003 x104004 x104005 x104006 x104007 x104008 x104009 x104010 x104011 x104012 x104013 x104014)) else (spec_ClientOk.j1 k true x104000 x104001 x104002 x104003 x104004 x104005 x104006 x104007 x104008 x104009 x104010 x104011 x104012 x104013 x104014)))
def spec_ClientOk.j1 : Nat → Bool → Int → Int → Int → Int → Int → Int → Int → Int → Int → List Int → Int → Int → Int → Int → Int → Option (Bool)
  | 0, _, _, _, _, _, _, _, _, _, _, _, _, _, _, _, _ => none
  | k + 1, x33, x104000, x104001, x104002, x104003, x104004, x104005, x104006, x104007, x104008, x104009, x104010, x104011, x104012, x104013, x104014 => if x33 = true then (some false) else (if x104003 = 0 then (spec_ClientOk.j2 k true x104000 x104001 x104002 x104003 x104004 x104005 x104006 x104007 x104008 x104009 x104010 x104011 x104012 x104013 x104014) else (spec_ClientOk.j2 k (x104003 == 1) x104000 x104001 x104002 x104003 x104004 x104005 x104006 x104007 x104008 x104009 x104010 x104011 x104012 x104013 x104014))
def spec_ClientOk.j2 : Nat → Bool → Int → Int → Int → Int → Int → Int → Int → Int → Int → List Int → Int → Int → Int → Int → Int → Option (Bool)
  | 0, _, _, _, _, _, _, _, _, _, _, _, _, _, _, _, _ => none
  | k + 1, x41, x104000, x104001, x104002, x104003, x104004, x104005, x104006, x104007, x104008, x104009, x104010, x104011, x104012, x104013, x104014 => if x41 = true then (if (x104004 == 0 && ((x104005 == 0 && (x104006 == 0 && (x104007 == 0 && (x104008 == 0)))))) = true then (if (x104009.length : Int) = 0 then (some (decide (x104002 ≥ x104003))) else (some false)) else (some false)) else (if x104003 = 2 then (if x104002 < 1 then (spec_ClientOk.j3 k true x104000 x104001 x104002 x104003 x104004 x104005 x104006 x104007 x104008 x104009 x104010 x104011 x104012 x104013 x104014) else ((spec_l1In.f x104004 (wrap64 (x104010 + 1)) 256).bind fun t108 => (if t108 = true then (spec_ClientOk.j3 k (decide ((x104009.length : Int) ≥ x104000)) x104000 x104001 x104002 x104003 x104004 x104005 x104006 x104007 x104008 x104009 x104010 x104011 x104012 x104013 x104014) else (spec_ClientOk.j3 k true x104000 x104001 x104002 x104003 x104004 x104005 x104006 x104007 x104008 x104009 x104010 x104011 x104012 x104013 x104014)))) else (spec_ClientOk.j3 k true x104000 x104001 x104002 x104003 x104004 x104005 x104006 x104007 x104008 x104009 x104010 x104011 x104012 x104013 x104014))
def spec_ClientOk.j3 : Nat → Bool → Int → Int → Int → Int → Int → Int → Int → Int → Int → List Int → Int → Int → Int → Int → Int → Option (Bool)
  | 0, _, _, _, _, _, _, _, _, _, _, _, _, _, _, _, _ => none
  | k + 1, x85, x104000, x104001, x104002, x104003, x104004, x104005, x104006, x104007, x104008, x104009, x104010, x104011, x104012, x104013, x104014 => if x85 = true then (some false) else (spec_ClientOk.l0 k 0 x104000 x104001 x104002 x104003 x104004 x104005 x104006 x104007 x104008 x104009 x104010 x104011 x104012 x104013 x104014)
def spec_ClientOk.l0 : Nat → Int → Int → Int → Int → Int → Int → Int → Int → Int → Int → List Int → Int → Int → Int → Int → Int → Option (Bool)
  | 0, _, _, _, _, _, _, _, _, _, _, _, _, _, _, _, _ => none
  | k + 1, x3, x104000, x104001, x104002, x104003, x104004, x104005, x104006, x104007, x104008, x104009, x104010, x104011, x104012, x104013, x104014 => if x3 < (x104009.length : Int) then (if 0 ≤ x3 then ((spec_l1In.f (rd x104009 x3) 1 x104001).bind fun t110 => (if t110 = true then (if x3 > 0 then (if 0 ≤ (wrap64 (x3 - 1)) then (if (wrap64 (x3 - 1)) < (x104009.length : Int) then (if (rd x104009 (wrap64 (x3 - 1))) ≥ (rd x104009 x3) then (some false) else (spec_ClientOk.l0 k (wrap64 (x3 + 1)) x104000 x104001 x104002 x104003 x104004 x104005 x104006 x104007 x104008 x104009 x104010 x104011 x104012 x104013 x104014)) else (none)) else (none)) else (spec_ClientOk.l0 k (wrap64 (x3 + 1)) x104000 x104001 x104002 x104003 x104004 x104005 x104006 x104007 x104008 x104009 x104010 x104011 x104012 x104013 x104014)) else (some false))) else (none)) else (some true)
end
def spec_ClientOk.f (k : Nat) (a0_0 : Int) (a0_1 : Int) (a0_2 : Int) (a0_3 : Int) (a0_4 : Int) (a0_5 : Int) (a0_6 : Int) (a0_7 : Int) (a0_8 : Int) (l0_9 : List Int) (a0_10 : Int) (a0_11 : Int) (a0_12 : Int) (a0_13 : Int) (a0_14 : Int) : Option (Bool) := (spec_l1In.f a0_1 1 7).bind fun t104 => (if t104 = true then ((spec_l1In.f a0_0 1 a0_1).bind fun t105 => (if t105 = true then (spec_ClientOk.j0 k (decide ((wrap64 (2 * a0_0)) ≤ a0_1)) a0_0 a0_1 a0_2 a0_3 a0_4 a0_5 a0_6 a0_7 a0_8 l0_9 a0_10 a0_11 a0_12 a0_13 a0_14) else (spec_ClientOk.j0 k true a0_0 a0_1 a0_2 a0_3 a0_4 a0_5 a0_6 a0_7 a0_8 l0_9 a0_10 a0_11 a0_12 a0_13 a0_14))) else (spec_ClientOk.j0 k true a0_0 a0_1 a0_2 a0_3 a0_4 a0_5 a0_6 a0_7 a0_8 l0_9 a0_10 a0_11 a0_12 a0_13 a0_14))
/-! ### spec_ClientNew: function 28 -/
def spec_ClientNew.f (k : Nat) (a0 : Int) (a1 : Int) : Option (Int × Int × Int × Int × Int × Int × Int × Int × Int × List Int × Int × Int × Int × Int × Int × Bool) := (spec_ClientOk.f k a0 a1 0 0 0 0 0 0 0 ([] : List Int) 0 0 0 0 0).bind fun t115 => (if t115 = true then (some (a0, a1, 0, 0, 0, 0, 0, 0, 0, ([] : List Int), 0, 0, 0, 0, 0, true)) else (some (0, 0, 0, 0, 0, 0, 0, 0, 0, ([] : List Int), 0, 0, 0, 0, 0, false)))
/-! ### impl_in: function 38 -/
def impl_in.f (a0 : Int) (a1 : Int) (a2 : Int) : Option (Bool) := if a0 ≥ a1 then (some (decide (a0 ≤ a2))) else (some false)
/-! ### impl_ClientOk: function 36 -/
mutual
def impl_ClientOk.j0 : Nat → Bool → Int → Int → Int → Int → Int → Int → Int → Int → Int → List Int → Int → Int → Int → Int → Int → Option (Bool)
  | 0, _, _, _, _, _, _, _, _, _, _, _, _, _, _, _, _ => none
  | k + 1, x43, x117000, x117001, x117002, x117003, x117004, x117005, x117006, x117007, x117008, x117009, x117010, x117011, x117012, x117013, x117014 => if x43 = true then (some false) else (if x117003 = 0 then (impl_ClientOk.j1 k x117003 (x117003 == 0) x117000 x117001 x117002 x117003 x117004 x117005 x117006 x117007 x117008 x117009 x117010 x117011 x117012 x117013 x117014) else (impl_ClientOk.j1 k x117003 (x117003 == 1) x117000 x117001 x117002 x117003 x117004 x117005 x117006 x117007 x117008 x117009 x117010 x117011 x117012 x117013 x117014))
def impl_ClientOk.j1 : Nat → Int → Bool → Int → Int → Int → Int → Int → Int → Int → Int → Int → List Int → Int → Int → Int → Int → Int → Option (Bool)
  | 0, _, _, _, _, _, _, _, _, _, _, _, _, _, _, _, _, _ => none
  | k + 1, x45, x46, x117000, x117001, x117002, x117003, x117004, x117005, x117006, x117007, x117008, x117009, x117010, x117011, x117012, x117013, x117014 => if x46 = true then (if (x117004 == 0 && ((x117005 == 0 && (x117006 == 0 && (x117007 == 0 && (x117008 == 0)))))) = true then (if (x117009.length : Int) = 0 then (if x117003 = 0 then (some true) else (some (x117002 != 0))) else (some false)) else (some false)) else (if x45 = 2 then (impl_ClientOk.l0 k x117009 (x117009.length : Int) 0 x117000 x117001 x117002 x117003 x117004 x117005 x117006 x117007 x117008 x117009 x117010 x117011 x117012 x117013 x117014) else (some false))
def impl_ClientOk.l0 : Nat → List Int → Int → Int → Int → Int → Int → Int → Int → Int → Int → Int → Int → List Int → Int → Int → Int → Int → Int → Option (Bool)
  | 0, _, _, _, _, _, _, _, _, _, _, _, _, _, _, _, _, _, _ => none
  | k + 1, x72, x73, x74, x117000, x117001, x117002, x117003, x117004, x117005, x117006, x117007, x117008, x117009, x117010, x117011, x117012, x117013, x117014 => if x74 < x73 then (if 0 ≤ x74 then (if x74 < (x72.length : Int) then ((impl_in.f (rd x72 x74) 1 x117001).bind fun t122 => (if t122 = true then (if x74 > 0 then (if 0 ≤ (wrap64 (x74 - 1)) then (if (wrap64 (x74 - 1)) < (x117009.length : Int) then (if (rd x117009 (wrap64 (x74 - 1))) ≥ (rd x72 x74) then (some false) else (impl_ClientOk.l0 k x72 x73 (wrap64 (x74 + 1)) x117000 x117001 x117002 x117003 x117004 x117005 x117006 x117007 x117008 x117009 x117010 x117011 x117012 x117013 x117014)) else (none)) else (none)) else (impl_ClientOk.l0 k x72 x73 (wrap64 (x74 + 1)) x117000 x117001 x117002 x117003 x117004 x117005 x117006 x117007 x117008 x117009 x117010 x117011 x117012 x117013 x117014)) else (some false))) else (none)) else (none)) else (if x117002 = 0 then (some false) else ((impl_in.f x117004 (wrap64 (x117010 + 1)) 256).bind fun t124 => (if t124 = true then (some (decide ((x117009.length : Int) < x117000))) else (some false))))
end
def impl_ClientOk.f (k : Nat) (a0_0 : Int) (a0_1 : Int) (a0_2 : Int) (a0_3 : Int) (a0_4 : Int) (a0_5 : Int) (a0_6 : Int) (a0_7 : Int) (a0_8 : Int) (l0_9 : List Int) (a0_10 : Int) (a0_11 : Int) (a0_12 : Int) (a0_13 : Int) (a0_14 : Int) : Option (Bool) := (impl_in.f a0_1 1 7).bind fun t117 => (if t117 = true then ((impl_in.f a0_0 1 a0_1).bind fun t118 => (if t118 = true then (if (wrap64 (2 * a0_0)) ≤ a0_1 then (impl_ClientOk.j0 k true a0_0 a0_1 a0_2 a0_3 a0_4 a0_5 a0_6 a0_7 a0_8 l0_9 a0_10 a0_11 a0_12 a0_13 a0_14) else ((impl_in.f a0_2 0 1000000).bind fun t119 => (if t119 = true then (if (!(a0_10 == 0) || ((!(a0_11 == 0) || (!(a0_12 == 0) || (!(a0_13 == 0) || (!(a0_14 == 0))))))) = true then ((impl_in.f a0_10 1 256).bind fun t120 => (impl_ClientOk.j0 k (!t120) a0_0 a0_1 a0_2 a0_3 a0_4 a0_5 a0_6 a0_7 a0_8 l0_9 a0_10 a0_11 a0_12 a0_13 a0_14)) else (impl_ClientOk.j0 k false a0_0 a0_1 a0_2 a0_3 a0_4 a0_5 a0_6 a0_7 a0_8 l0_9 a0_10 a0_11 a0_12 a0_13 a0_14)) else (impl_ClientOk.j0 k true a0_0 a0_1 a0_2 a0_3 a0_4 a0_5 a0_6 a0_7 a0_8 l0_9 a0_10 a0_11 a0_12 a0_13 a0_14)))) else (impl_ClientOk.j0 k true a0_0 a0_1 a0_2 a0_3 a0_4 a0_5 a0_6 a0_7 a0_8 l0_9 a0_10 a0_11 a0_12 a0_13 a0_14))) else (impl_ClientOk.j0 k true a0_0 a0_1 a0_2 a0_3 a0_4 a0_5 a0_6 a0_7 a0_8 l0_9 a0_10 a0_11 a0_12 a0_13 a0_14))
/-! ### impl_ClientNew: function 29 -/
def impl_ClientNew.f (k : Nat) (a0 : Int) (a1 : Int) : Option (Int × Int × Int × Int × Int × Int × Int × Int × Int × List Int × Int × Int × Int × Int × Int × Bool) := (impl_ClientOk.f k a0 a1 0 0 0 0 0 0 0 ([] : List Int) 0 0 0 0 0).bind fun t127 => (if t127 = true then (some (a0, a1, 0, 0, 0, 0, 0, 0, 0, ([] : List Int), 0, 0, 0, 0, 0, true)) else (some (0, 0, 0, 0, 0, 0, 0, 0, 0, ([] : List Int), 0, 0, 0, 0, 0, false)))
/-! ### laws_eqDigest: function 51 -/
def laws_eqDigest.f (a0_0 : Int) (a0_1 : Int) (a0_2 : Int) (a0_3 : Int) (a1_0 : Int) (a1_1 : Int) (a1_2 : Int) (a1_3 : Int) : Option (Bool) := if a0_0 = a1_0 then (if a0_1 = a1_1 then (if a0_2 = a1_2 then (if a0_3 = a1_3 then (some true) else (some false)) else (some false)) else (some false)) else (some false)
/-! ### laws_eqPoint: function 42 -/
def laws_eqPoint.f (a0_0 : Int) (a0_1 : Int) (a0_2 : Int) (a0_3 : Int) (a0_4 : Int) (a1_0 : Int) (a1_1 : Int) (a1_2 : Int) (a1_3 : Int) (a1_4 : Int) : Option (Bool) := if a0_0 = a1_0 then ((laws_eqDigest.f a0_1 a0_2 a0_3 a0_4 a1_1 a1_2 a1_3 a1_4).bind fun t132 => (if t132 = true then (some true) else (some false))) else (some false)
/-! ### laws_eqIntS: function 43 -/
def laws_eqIntS.l0 : Nat → List Int → List Int → Int → Option (Bool)
  | 0, _, _, _ => none
  | k + 1, x0, x1, x5 => if x5 < (x0.length : Int) then (if 0 ≤ x5 then (if x5 < (x1.length : Int) then (if (rd x0 x5) = (rd x1 x5) then (laws_eqIntS.l0 k x0 x1 (wrap64 (x5 + 1))) else (some false)) else (none)) else (none)) else (some true)
def laws_eqIntS.f (k : Nat) (l0 : List Int) (l1 : List Int) : Option (Bool) := if (l0.length : Int) = (l1.length : Int) then (laws_eqIntS.l0 k l0 l1 0) else (some false)
/-! ### laws_eqClient: function 30 -/
def laws_eqClient.f (k : Nat) (a0_0 : Int) (a0_1 : Int) (a0_2 : Int) (a0_3 : Int) (a0_4 : Int) (a0_5 : Int) (a0_6 : Int) (a0_7 : Int) (a0_8 : Int) (l0_9 : List Int) (a0_10 : Int) (a0_11 : Int) (a0_12 : Int) (a0_13 : Int) (a0_14 : Int) (a1_0 : Int) (a1_1 : Int) (a1_2 : Int) (a1_3 : Int) (a1_4 : Int) (a1_5 : Int) (a1_6 : Int) (a1_7 : Int) (a1_8 : Int) (l1_9 : List Int) (a1_10 : Int) (a1_11 : Int) (a1_12 : Int) (a1_13 : Int) (a1_14 : Int) : Option (Bool) := if a0_0 = a1_0 then (if a0_1 = a1_1 then (if a0_2 = a1_2 then (if a0_3 = a1_3 then ((laws_eqPoint.f a0_4 a0_5 a0_6 a0_7 a0_8 a1_4 a1_5 a1_6 a1_7 a1_8).bind fun t137 => (if t137 = true then ((laws_eqIntS.f k l0_9 l1_9).bind fun t138 => (if t138 = true then ((laws_eqPoint.f a0_10 a0_11 a0_12 a0_13 a0_14 a1_10 a1_11 a1_12 a1_13 a1_14).bind fun t139 => (if t139 = true then (some true) else (some false))) else (some false))) else (some false))) else (some false)) else (some false)) else (some false)) else (some false)
/-! ### laws_markIntS: function 44 -/
def laws_markIntS.l0 : Nat → List Int → Int → Int → Option (Int × List Int)
  | 0, _, _, _ => none
  | k + 1, x0, x1, x5 => if x5 < (x0.length : Int) then (if 0 ≤ x5 then (laws_markIntS.l0 k (x0.set (x5 : Int).toNat x1) (wrap64 (x1 + 1)) (wrap64 (x5 + 1))) else (none)) else (some (x1, x0))
def laws_markIntS.f (k : Nat) (l0 : List Int) (a1 : Int) : Option (Int × List Int) := laws_markIntS.l0 k l0 a1 0
/-! ### laws_markClient: function 31 -/
def laws_markClient.f (k : Nat) (a0_0 : Int) (a0_1 : Int) (a0_2 : Int) (a0_3 : Int) (a0_4 : Int) (a0_5 : Int) (a0_6 : Int) (a0_7 : Int) (a0_8 : Int) (l0_9 : List Int) (a0_10 : Int) (a0_11 : Int) (a0_12 : Int) (a0_13 : Int) (a0_14 : Int) (a1 : Int) : Option (Int × List Int) := (laws_markIntS.f k l0_9 a1).bind fun bt142 => (some (bt142.1, bt142.2))
/-! ### laws_heldIntS: function 45 -/
def laws_heldIntS.l0 : Nat → List Int → Int → Int → Option (Int)
  | 0, _, _, _ => none
  | k + 1, x0, x1, x5 => if x5 < (x0.length : Int) then (if 0 ≤ x5 then (if (rd x0 x5) = x1 then (laws_heldIntS.l0 k x0 (wrap64 (x1 + 1)) (wrap64 (x5 + 1))) else (some (-1))) else (none)) else (some x1)
def laws_heldIntS.f (k : Nat) (l0 : List Int) (a1 : Int) : Option (Int) := laws_heldIntS.l0 k l0 a1 0
/-! ### laws_heldClient: function 32 -/
def laws_heldClient.f (k : Nat) (a0_0 : Int) (a0_1 : Int) (a0_2 : Int) (a0_3 : Int) (a0_4 : Int) (a0_5 : Int) (a0_6 : Int) (a0_7 : Int) (a0_8 : Int) (l0_9 : List Int) (a0_10 : Int) (a0_11 : Int) (a0_12 : Int) (a0_13 : Int) (a0_14 : Int) (a1 : Int) : Option (Int) := (laws_heldIntS.f k l0_9 a1).bind fun t146 => (if t146 < 0 then (some (-1)) else (some t146))
/-! ### laws_FnExactClientNew: function 8 -/
mutual
def laws_FnExactClientNew.j0 : Nat → Int → Int → Bool → Bool → Int → Int → Int → Int → Int → Int → Int → Int → Int → List Int → Int → Int → Int → Int → Int → Int → Int → Int → Int → Int → Int → Int → Int → Int → List Int → Int → Int → Int → Int → Int → Option (Bool)
  | 0, _, _, _, _, _, _, _, _, _, _, _, _, _, _, _, _, _, _, _, _, _, _, _, _, _, _, _, _, _, _, _, _, _, _ => none
  | k + 1, x0, x1, x6, x33, x166000, x166001, x166002, x166003, x166004, x166005, x166006, x166007, x166008, x166009, x166010, x166011, x166012, x166013, x166014, x185000, x185001, x185002, x185003, x185004, x185005, x185006, x185007, x185008, x185009, x185010, x185011, x185012, x185013, x185014 => if x33 = true then (some false) else ((laws_markClient.f k x185000 x185001 x185002 x185003 x185004 x185005 x185006 x185007 x185008 x185009 x185010 x185011 x185012 x185013 x185014 1).bind fun bt186 => ((laws_heldClient.f k x185000 x185001 x185002 x185003 x185004 x185005 x185006 x185007 x185008 bt186.2 x185010 x185011 x185012 x185013 x185014 1).bind fun t188 => (if t188 < 0 then (some false) else (if t188 = bt186.1 then ((impl_ClientNew.f k x0 x1).bind fun bt189 => ((laws_eqClient.f k bt189.1 bt189.2.1 bt189.2.2.1 bt189.2.2.2.1 bt189.2.2.2.2.1 bt189.2.2.2.2.2.1 bt189.2.2.2.2.2.2.1 bt189.2.2.2.2.2.2.2.1 bt189.2.2.2.2.2.2.2.2.1 bt189.2.2.2.2.2.2.2.2.2.1 bt189.2.2.2.2.2.2.2.2.2.2.1 bt189.2.2.2.2.2.2.2.2.2.2.2.1 bt189.2.2.2.2.2.2.2.2.2.2.2.2.1 bt189.2.2.2.2.2.2.2.2.2.2.2.2.2.1 bt189.2.2.2.2.2.2.2.2.2.2.2.2.2.2.1 x166000 x166001 x166002 x166003 x166004 x166005 x166006 x166007 x166008 x166009 x166010 x166011 x166012 x166013 x166014).bind fun t208 => (if t208 = true then (laws_FnExactClientNew.j1 k bt186.1 (bt189.2.2.2.2.2.2.2.2.2.2.2.2.2.2.2 != x6) x185000 x185001 x185002 x185003 x185004 x185005 x185006 x185007 x185008 bt186.2 x185010 x185011 x185012 x185013 x185014) else (laws_FnExactClientNew.j1 k bt186.1 true x185000 x185001 x185002 x185003 x185004 x185005 x185006 x185007 x185008 bt186.2 x185010 x185011 x185012 x185013 x185014)))) else (some false)))))
def laws_FnExactClientNew.j1 : Nat → Int → Bool → Int → Int → Int → Int → Int → Int → Int → Int → Int → List Int → Int → Int → Int → Int → Int → Option (Bool)
  | 0, _, _, _, _, _, _, _, _, _, _, _, _, _, _, _, _, _ => none
  | k + 1, x9, x59, x185000, x185001, x185002, x185003, x185004, x185005, x185006, x185007, x185008, x185009, x185010, x185011, x185012, x185013, x185014 => if x59 = true then (some false) else ((laws_heldClient.f k x185000 x185001 x185002 x185003 x185004 x185005 x185006 x185007 x185008 x185009 x185010 x185011 x185012 x185013 x185014 1).bind fun t209 => (if t209 < 0 then (some false) else (if t209 = x9 then (some true) else (some false))))
end
def laws_FnExactClientNew.f (k : Nat) (a0 : Int) (a1 : Int) : Option (Bool) := (spec_ClientNew.f k a0 a1).bind fun bt147 => ((impl_ClientNew.f k a0 a1).bind fun bt166 => ((laws_eqClient.f k bt166.1 bt166.2.1 bt166.2.2.1 bt166.2.2.2.1 bt166.2.2.2.2.1 bt166.2.2.2.2.2.1 bt166.2.2.2.2.2.2.1 bt166.2.2.2.2.2.2.2.1 bt166.2.2.2.2.2.2.2.2.1 bt166.2.2.2.2.2.2.2.2.2.1 bt166.2.2.2.2.2.2.2.2.2.2.1 bt166.2.2.2.2.2.2.2.2.2.2.2.1 bt166.2.2.2.2.2.2.2.2.2.2.2.2.1 bt166.2.2.2.2.2.2.2.2.2.2.2.2.2.1 bt166.2.2.2.2.2.2.2.2.2.2.2.2.2.2.1 bt147.1 bt147.2.1 bt147.2.2.1 bt147.2.2.2.1 bt147.2.2.2.2.1 bt147.2.2.2.2.2.1 bt147.2.2.2.2.2.2.1 bt147.2.2.2.2.2.2.2.1 bt147.2.2.2.2.2.2.2.2.1 bt147.2.2.2.2.2.2.2.2.2.1 bt147.2.2.2.2.2.2.2.2.2.2.1 bt147.2.2.2.2.2.2.2.2.2.2.2.1 bt147.2.2.2.2.2.2.2.2.2.2.2.2.1 bt147.2.2.2.2.2.2.2.2.2.2.2.2.2.1 bt147.2.2.2.2.2.2.2.2.2.2.2.2.2.2.1).bind fun t185 => (if t185 = true then (laws_FnExactClientNew.j0 k a0 a1 bt147.2.2.2.2.2.2.2.2.2.2.2.2.2.2.2 (bt166.2.2.2.2.2.2.2.2.2.2.2.2.2.2.2 != bt147.2.2.2.2.2.2.2.2.2.2.2.2.2.2.2) bt147.1 bt147.2.1 bt147.2.2.1 bt147.2.2.2.1 bt147.2.2.2.2.1 bt147.2.2.2.2.2.1 bt147.2.2.2.2.2.2.1 bt147.2.2.2.2.2.2.2.1 bt147.2.2.2.2.2.2.2.2.1 bt147.2.2.2.2.2.2.2.2.2.1 bt147.2.2.2.2.2.2.2.2.2.2.1 bt147.2.2.2.2.2.2.2.2.2.2.2.1 bt147.2.2.2.2.2.2.2.2.2.2.2.2.1 bt147.2.2.2.2.2.2.2.2.2.2.2.2.2.1 bt147.2.2.2.2.2.2.2.2.2.2.2.2.2.2.1 bt166.1 bt166.2.1 bt166.2.2.1 bt166.2.2.2.1 bt166.2.2.2.2.1 bt166.2.2.2.2.2.1 bt166.2.2.2.2.2.2.1 bt166.2.2.2.2.2.2.2.1 bt166.2.2.2.2.2.2.2.2.1 bt166.2.2.2.2.2.2.2.2.2.1 bt166.2.2.2.2.2.2.2.2.2.2.1 bt166.2.2.2.2.2.2.2.2.2.2.2.1 bt166.2.2.2.2.2.2.2.2.2.2.2.2.1 bt166.2.2.2.2.2.2.2.2.2.2.2.2.2.1 bt166.2.2.2.2.2.2.2.2.2.2.2.2.2.2.1) else (laws_FnExactClientNew.j0 k a0 a1 bt147.2.2.2.2.2.2.2.2.2.2.2.2.2.2.2 true bt147.1 bt147.2.1 bt147.2.2.1 bt147.2.2.2.1 bt147.2.2.2.2.1 bt147.2.2.2.2.2.1 bt147.2.2.2.2.2.2.1 bt147.2.2.2.2.2.2.2.1 bt147.2.2.2.2.2.2.2.2.1 bt147.2.2.2.2.2.2.2.2.2.1 bt147.2.2.2.2.2.2.2.2.2.2.1 bt147.2.2.2.2.2.2.2.2.2.2.2.1 bt147.2.2.2.2.2.2.2.2.2.2.2.2.1 bt147.2.2.2.2.2.2.2.2.2.2.2.2.2.1 bt147.2.2.2.2.2.2.2.2.2.2.2.2.2.2.1 bt166.1 bt166.2.1 bt166.2.2.1 bt166.2.2.2.1 bt166.2.2.2.2.1 bt166.2.2.2.2.2.1 bt166.2.2.2.2.2.2.1 bt166.2.2.2.2.2.2.2.1 bt166.2.2.2.2.2.2.2.2.1 bt166.2.2.2.2.2.2.2.2.2.1 bt166.2.2.2.2.2.2.2.2.2.2.1 bt166.2.2.2.2.2.2.2.2.2.2.2.1 bt166.2.2.2.2.2.2.2.2.2.2.2.2.1 bt166.2.2.2.2.2.2.2.2.2.2.2.2.2.1 bt166.2.2.2.2.2.2.2.2.2.2.2.2.2.2.1))))
/-! ### laws_szIntS: function 46 -/
def laws_szIntS.f (l0 : List Int) (a1 : Int) : Option (Int) := if (wrap64 (a1 - (l0.length : Int))) < 0 then (some (-1)) else (some (wrap64 (a1 - (l0.length : Int))))
/-! ### laws_szClient: function 33 -/
def laws_szClient.f (a0_0 : Int) (a0_1 : Int) (a0_2 : Int) (a0_3 : Int) (a0_4 : Int) (a0_5 : Int) (a0_6 : Int) (a0_7 : Int) (a0_8 : Int) (l0_9 : List Int) (a0_10 : Int) (a0_11 : Int) (a0_12 : Int) (a0_13 : Int) (a0_14 : Int) (a1 : Int) : Option (Int) := (laws_szIntS.f l0_9 a1).bind fun t211 => (if t211 < 0 then (some (-1)) else (some t211))
/-! ### laws_toDigest: function 52 -/
def laws_toDigest.f (a0_0 : Int) (a0_1 : Int) (a0_2 : Int) (a0_3 : Int) : Option (Int × Int × Int × Int) := some (a0_0, a0_1, a0_2, a0_3)
/-! ### laws_toPoint: function 48 -/
def laws_toPoint.f (a0_0 : Int) (a0_1 : Int) (a0_2 : Int) (a0_3 : Int) (a0_4 : Int) : Option (Int × Int × Int × Int × Int) := (laws_toDigest.f a0_1 a0_2 a0_3 a0_4).bind fun bt218 => (some (a0_0, bt218.1, bt218.2.1, bt218.2.2.1, bt218.2.2.2))
/-! ### laws_toIntS: function 49 -/
def laws_toIntS.l0 : Nat → List Int → List Int → Int → Option (List Int)
  | 0, _, _, _ => none
  | k + 1, x0, x3, x4 => if x4 < (x0.length : Int) then (if 0 ≤ x4 then (if x4 < (x3.length : Int) then (laws_toIntS.l0 k x0 (x3.set (x4 : Int).toNat (rd x0 x4)) (wrap64 (x4 + 1))) else (none)) else (none)) else (some x3)
def laws_toIntS.f (k : Nat) (l0 : List Int) : Option (List Int) := if 0 ≤ (l0.length : Int) then (if ((l0.length : Int) : Int).toNat ≤ 35184372088832 then (laws_toIntS.l0 k l0 (List.replicate ((l0.length : Int) : Int).toNat 0) 0) else (none)) else (none)
/-! ### laws_toClient: function 35 -/
def laws_toClient.f (k : Nat) (a0_0 : Int) (a0_1 : Int) (a0_2 : Int) (a0_3 : Int) (a0_4 : Int) (a0_5 : Int) (a0_6 : Int) (a0_7 : Int) (a0_8 : Int) (l0_9 : List Int) (a0_10 : Int) (a0_11 : Int) (a0_12 : Int) (a0_13 : Int) (a0_14 : Int) : Option (Int × Int × Int × Int × Int × Int × Int × Int × Int × List Int × Int × Int × Int × Int × Int) := (laws_toPoint.f a0_4 a0_5 a0_6 a0_7 a0_8).bind fun bt230 => ((laws_toIntS.f k l0_9).bind fun t235 => ((laws_toPoint.f a0_10 a0_11 a0_12 a0_13 a0_14).bind fun bt238 => (some (a0_0, a0_1, a0_2, a0_3, bt230.1, bt230.2.1, bt230.2.2.1, bt230.2.2.2.1, bt230.2.2.2.2, t235, bt238.1, bt238.2.1, bt238.2.2.1, bt238.2.2.2.1, bt238.2.2.2.2))))
/-! ### laws_FnExactClientOk: function 9 -/
def laws_FnExactClientOk.f (k : Nat) (a0_0 : Int) (a0_1 : Int) (a0_2 : Int) (a0_3 : Int) (a0_4 : Int) (a0_5 : Int) (a0_6 : Int) (a0_7 : Int) (a0_8 : Int) (l0_9 : List Int) (a0_10 : Int) (a0_11 : Int) (a0_12 : Int) (a0_13 : Int) (a0_14 : Int) : Option (Bool) := (laws_szClient.f a0_0 a0_1 a0_2 a0_3 a0_4 a0_5 a0_6 a0_7 a0_8 l0_9 a0_10 a0_11 a0_12 a0_13 a0_14 1048576).bind fun t244 => (if t244 < 0 then (some true) else ((laws_toClient.f k a0_0 a0_1 a0_2 a0_3 a0_4 a0_5 a0_6 a0_7 a0_8 l0_9 a0_10 a0_11 a0_12 a0_13 a0_14).bind fun bt245 => ((spec_ClientOk.f k bt245.1 bt245.2.1 bt245.2.2.1 bt245.2.2.2.1 bt245.2.2.2.2.1 bt245.2.2.2.2.2.1 bt245.2.2.2.2.2.2.1 bt245.2.2.2.2.2.2.2.1 bt245.2.2.2.2.2.2.2.2.1 bt245.2.2.2.2.2.2.2.2.2.1 bt245.2.2.2.2.2.2.2.2.2.2.1 bt245.2.2.2.2.2.2.2.2.2.2.2.1 bt245.2.2.2.2.2.2.2.2.2.2.2.2.1 bt245.2.2.2.2.2.2.2.2.2.2.2.2.2.1 bt245.2.2.2.2.2.2.2.2.2.2.2.2.2.2).bind fun t262 => ((laws_toClient.f k a0_0 a0_1 a0_2 a0_3 a0_4 a0_5 a0_6 a0_7 a0_8 l0_9 a0_10 a0_11 a0_12 a0_13 a0_14).bind fun bt263 => ((impl_ClientOk.f k bt263.1 bt263.2.1 bt263.2.2.1 bt263.2.2.2.1 bt263.2.2.2.2.1 bt263.2.2.2.2.2.1 bt263.2.2.2.2.2.2.1 bt263.2.2.2.2.2.2.2.1 bt263.2.2.2.2.2.2.2.2.1 bt263.2.2.2.2.2.2.2.2.2.1 bt263.2.2.2.2.2.2.2.2.2.2.1 bt263.2.2.2.2.2.2.2.2.2.2.2.1 bt263.2.2.2.2.2.2.2.2.2.2.2.2.1 bt263.2.2.2.2.2.2.2.2.2.2.2.2.2.1 bt263.2.2.2.2.2.2.2.2.2.2.2.2.2.2).bind fun t281 => (if (t281 != t262) = true then (some false) else ((laws_toClient.f k a0_0 a0_1 a0_2 a0_3 a0_4 a0_5 a0_6 a0_7 a0_8 l0_9 a0_10 a0_11 a0_12 a0_13 a0_14).bind fun bt282 => ((laws_eqClient.f k bt263.1 bt263.2.1 bt263.2.2.1 bt263.2.2.2.1 bt263.2.2.2.2.1 bt263.2.2.2.2.2.1 bt263.2.2.2.2.2.2.1 bt263.2.2.2.2.2.2.2.1 bt263.2.2.2.2.2.2.2.2.1 bt263.2.2.2.2.2.2.2.2.2.1 bt263.2.2.2.2.2.2.2.2.2.2.1 bt263.2.2.2.2.2.2.2.2.2.2.2.1 bt263.2.2.2.2.2.2.2.2.2.2.2.2.1 bt263.2.2.2.2.2.2.2.2.2.2.2.2.2.1 bt263.2.2.2.2.2.2.2.2.2.2.2.2.2.2 bt282.1 bt282.2.1 bt282.2.2.1 bt282.2.2.2.1 bt282.2.2.2.2.1 bt282.2.2.2.2.2.1 bt282.2.2.2.2.2.2.1 bt282.2.2.2.2.2.2.2.1 bt282.2.2.2.2.2.2.2.2.1 bt282.2.2.2.2.2.2.2.2.2.1 bt282.2.2.2.2.2.2.2.2.2.2.1 bt282.2.2.2.2.2.2.2.2.2.2.2.1 bt282.2.2.2.2.2.2.2.2.2.2.2.2.1 bt282.2.2.2.2.2.2.2.2.2.2.2.2.2.1 bt282.2.2.2.2.2.2.2.2.2.2.2.2.2.2).bind fun t299 => (if t299 = true then (some true) else (some false))))))))))
end Go.Proofs.Ytpdcdajccfccbaa.Q

/- The words by which the code is reckoned. No condition but each theorem's own. -/
import Derived.Test.YtpdcdajccfccbaaVY
namespace Go.Proofs.YtpdcdajccfccbaaW.V
open Go

section
variable {κ α : Type} [DecidableEq κ]
@[go_sem] theorem lk_nil (q : κ) : lk ([] : List (κ × α)) q = none := rfl
@[go_sem] theorem lk_cons (k : κ) (v : α) (l : List (κ × α)) (q : κ) : lk ((k, v) :: l) q = if q = k then some v else lk l q := rfl
@[go_sem] theorem rmv_nil (q : κ) : rmv q ([] : List (κ × α)) = [] := rfl
@[go_sem] theorem rmv_cons (k : κ) (v : α) (l : List (κ × α)) (q : κ) : rmv q ((k, v) :: l) = if q = k then rmv q l else (k, v) :: rmv q l := rfl
@[go_sem] theorem mapO_nil {α β : Type} (f : α → Option β) : mapO f [] = some [] := rfl
@[go_sem] theorem mapO_cons {α β : Type} (f : α → Option β) (y : α) (l : List α) : mapO f (y :: l) = match f y, mapO f l with | some z, some r => some (z :: r) | _, _ => none := rfl
@[go_sem] theorem range_zero : List.range 0 = [] := rfl
@[go_sem] theorem range_one : List.range 1 = [0] := rfl
@[go_sem] theorem range_two : List.range 2 = [0, 1] := rfl
@[go_sem] theorem range_three : List.range 3 = [0, 1, 2] := rfl
@[go_sem] theorem range_16 : List.range 16 = [0, 1, 2, 3, 4, 5, 6, 7, 8, 9, 10, 11, 12, 13, 14, 15] := rfl
end

@[go_sem] theorem liveP_p (rt : Nm → Option Root) (ρ : Nm) (i o m : Nat) : liveP rt (.x (.o (.p ρ i o m))) = match rt ρ with | some r => r.len = m | none => False := by
  simp only [liveP]
  cases rt ρ with
  | none => simp
  | some r => simp
@[go_sem] theorem liveP_e (rt : Nm → Option Root) (xs : List (List C)) (i o : Nat) : liveP rt (.x (.o (.e xs i o))) = True := rfl

theorem wrap64 {x : Int} (h0 : -9223372036854775808 ≤ x) (h1 : x < 9223372036854775808) : IntKind.i64.wrap x = x := by
  simp [IntKind.wrap, IntKind.bits, IntKind.signed]
  split <;> omega
theorem ite_intro {c : Prop} [Decidable c] {a b : Prop} (ha : c → a) (hb : ¬ c → b) : if c then a else b := by
  split
  · exact ha ‹_›
  · exact hb ‹_›
@[go_sem] theorem nat_nn (i : Nat) : (0 ≤ (i : Int)) = True := by simp

attribute [go_sem ↓] vcode vops vop vexec vcall callK force vopsD vopD
attribute [go_sem] fzD fzA fzE fzR mapV LS.freeze1 LS.freeze rowsN fzAt retL
attribute [go_sem] hasN disj chkW chk pickR footN anOf Op.operands Call.operands Nat.testBit
attribute [go_sem] nf_mk
attribute [go_sem] rootsP passN ptrD refD ptrE refE refR reach dd passD passA passE passR ix ofVs LS.enter pickEnv evE core ofV sc LS.app setR LS.put thenV blockV endV finV resA passT outN outR valsE
  startV envOf rtOf firstId headK LS.canon inUse oldR newR rnN isNew gD gA gE gR deadN backN backD backA backE backR callN isP addP partA mkA ldE stE Root.get Root.set Root.len unC unCs isI isB isU binV unV viewE lenE
  Root.klen ixE bndE Root.rowsk slE unDs fillD evParts zeroD placesT shutD setRows shutR delR toV toVs srcE asA cellsA pk noShC noShD noShA noShE noShR numE TD.agg sp upd

attribute [go_sem] List.all_cons List.all_nil Value.oneCell' Bool.or_true Bool.true_or Bool.false_or Bool.or_false
attribute [go_sem] List.set_cons_zero List.set_cons_succ List.replicate_succ List.replicate_zero
attribute [go_sem] Int.toNat_natCast List.length_map
attribute [go_sem] List.zip_cons_cons List.zip_nil_left List.forall_mem_cons false_implies implies_true ne_eq not_false_eq_true not_true_eq_false List.getElem?_map decide_true decide_false Bool.and_true Bool.true_and Bool.and_false Bool.false_and
attribute [go_sem] Nat.zero_add Prod.mk.injEq and_true true_and and_false false_and if_true if_false Bool.false_eq_true Bool.true_eq_false Bool.not_true Bool.not_false Option.map_some Option.map_none List.length_cons
  List.length_nil List.map_cons List.map_nil List.flatMap_cons List.flatMap_nil List.cons_append List.nil_append List.append_nil List.getElem?_cons_zero List.getElem?_cons_succ List.getElem?_nil List.filter_cons List.filter_nil
  List.mem_cons List.not_mem_nil or_false false_or List.drop_zero List.drop_succ_cons List.take_succ_cons List.take_zero Option.bind_some Option.bind_none Option.getD_some Option.getD_none true_implies id_eq List.getElem?_toArray

end Go.Proofs.YtpdcdajccfccbaaW.V

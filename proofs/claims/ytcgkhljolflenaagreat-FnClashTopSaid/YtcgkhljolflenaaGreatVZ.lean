/- The words by which the code is reckoned. No condition but each theorem's own. -/
import Derived.Test.YtcgkhljolflenaaGreatVY
namespace Go.Proofs.YtcgkhljolflenaaGreatW.V
open Go

section
variable {κ : Type} {α : Type _} [DecidableEq κ]
@[go_sem] theorem lk_nil (q : κ) : lk ([] : List (κ × α)) q = none := rfl
@[go_sem] theorem lk_cons (k : κ) (v : α) (l : List (κ × α)) (q : κ) : lk ((k, v) :: l) q = if q = k then some v else lk l q := rfl
@[go_sem] theorem rmv_nil (q : κ) : rmv q ([] : List (κ × α)) = [] := rfl
@[go_sem] theorem rmv_cons (k : κ) (v : α) (l : List (κ × α)) (q : κ) : rmv q ((k, v) :: l) = if q = k then rmv q l else (k, v) :: rmv q l := rfl
@[go_sem] theorem mapO_nil {α β : Type} (f : α → Option β) : mapO f [] = some [] := rfl
@[go_sem] theorem mapO_cons {α β : Type} (f : α → Option β) (y : α) (l : List α) : mapO f (y :: l) = match f y, mapO f l with | some z, some r => some (z :: r) | _, _ => none := rfl
@[go_sem] theorem range_zero : List.range 0 = [] := rfl
@[go_sem] theorem range_one : List.range 1 = [0] := rfl
@[go_sem] theorem range_two : List.range 2 = [0, 1] := rfl
@[go_sem] theorem range_three : List.range 3 = [0, 1, 2] := rfl
@[go_sem] theorem range_16 : List.range 16 = [0, 1, 2, 3, 4, 5, 6, 7, 8, 9, 10, 11, 12, 13, 14, 15] := rfl
end

@[go_sem] theorem liveP_p (rt : Nm → Option Root) (ρ : Nm) (i o m : Nat) : liveP rt (.x (.o (.p ρ i o m))) = match rt ρ with | some (.mp _) => False | some r => r.len = m | none => False := by
  simp only [liveP]
  cases rt ρ with
  | none => simp
  | some r => cases r <;> simp [Root.plen]
@[go_sem] theorem liveP_e (rt : Nm → Option Root) (xs : List (List C)) (i o : Nat) : liveP rt (.x (.o (.e xs i o))) = True := rfl

@[go_sem] theorem viewE_nil (rt : Nm → Option Root) : viewE rt (.x (.o (.c (.v (.slice none 0 0))))) = some [] := rfl
@[go_sem] theorem viewE_s (rt : Nm → Option Root) (xs : List (List C)) : viewE rt (.x (.o (.c (.s xs)))) = some xs := rfl
@[go_sem] theorem viewE_h (rt : Nm → Option Root) (ρ : Nm) (i n m : Nat) : viewE rt (.x (.o (.h ρ i n m))) = match rt ρ with
    | some (.row _ xs) => if xs.length = m then some ((xs.drop i).take n) else none
    | _ => none := rfl
@[go_sem high] theorem viewE_full (rt : Nm → Option Root) (ρ : Nm) (n : Nat) : viewE rt (.x (.o (.h ρ 0 n n))) = match rt ρ with
    | some (.row _ xs) => if xs.length = n then some xs else none
    | _ => none := by
  simp only [viewE, List.drop_zero]
  cases rt ρ with
  | none => rfl
  | some r => cases r with
    | bx xs => rfl
    | it b p => rfl
    | mp es => rfl
    | row k xs =>
      simp only
      split
      · rename_i e; rw [← e, List.take_length]
      · rfl
@[go_sem] theorem mapO_append {α β : Type} (f : α → Option β) : ∀ (xs ys : List α), mapO f (xs ++ ys) = match mapO f xs, mapO f ys with | some a, some b => some (a ++ b) | _, _ => none
  | [], ys => by simp only [List.nil_append, mapO]; cases mapO f ys <;> rfl
  | x :: xs, ys => by
    simp only [List.cons_append, mapO, mapO_append f xs ys]
    cases f x <;> cases mapO f xs <;> cases mapO f ys <;> rfl
@[go_sem] theorem prod_eta {α β : Type} (p : α × β) : (p.1, p.2) = p := rfl
@[go_sem] theorem take_map {α β : Type} (f : α → β) (n : Nat) (l : List α) : (l.map f).take n = (l.take n).map f := List.map_take.symm
@[go_sem] theorem drop_map {α β : Type} (f : α → β) (n : Nat) (l : List α) : (l.map f).drop n = (l.drop n).map f := List.map_drop.symm
@[go_sem] theorem take_drop_all {α : Type} (i : Nat) (l : List α) : (l.drop i).take (l.length - i) = l.drop i := List.take_of_length_le (by simp)
@[go_sem] theorem take_all {α : Type} (l : List α) : l.take l.length = l := List.take_length
attribute [go_sem] Nat.sub_zero List.length_drop
@[go_sem] theorem optArr_none {α : Type} : (none : Option α).toArray = #[] := rfl
@[go_sem] theorem optArr_some {α : Type} (x : α) : (some x).toArray = #[x] := rfl
@[go_sem] theorem cast0 : ((0 : Nat) : Int) = 0 := rfl
attribute [go_sem] List.length_append forall_eq forall_eq_or_imp List.forall_mem_map List.forall_mem_append

/-! Nothing that others may read, reckoned. -/
def allC : List C → Prop
  | [] => True
  | y :: l => noShC y ∧ allC l
def allD : List D → Prop
  | [] => True
  | y :: l => noShD y ∧ allD l
def allA : List A → Prop
  | [] => True
  | y :: l => noShA y ∧ allA l
theorem allC_eq : ∀ (l : List C), allC l ↔ ∀ y ∈ l, noShC y
  | [] => by simp [allC]
  | y :: l => by simp [allC, allC_eq l]
theorem allD_eq : ∀ (l : List D), allD l ↔ ∀ y ∈ l, noShD y
  | [] => by simp [allD]
  | y :: l => by simp [allD, allD_eq l]
theorem allA_eq : ∀ (l : List A), allA l ↔ ∀ y ∈ l, noShA y
  | [] => by simp [allA]
  | y :: l => by simp [allA, allA_eq l]
def rowsNo (xs : List (List C)) : Prop := ∀ c ∈ xs, ∀ y ∈ c, noShC y
@[go_sem] theorem noShC_v (x : Value) : noShC (.v x) = True := rfl
@[go_sem] theorem noShC_s (xs : List (List C)) : noShC (.s xs) = (xs = []) := rfl
@[go_sem] theorem noShD_c (y : C) : noShD (.c y) = noShC y := rfl
@[go_sem] theorem noShD_h (ρ : Nm) (i n m : Nat) : noShD (.h ρ i n m) = True := rfl
@[go_sem] theorem noShD_p (ρ : Nm) (i n m : Nat) : noShD (.p ρ i n m) = True := rfl
@[go_sem] theorem noShA_o (d : D) : noShA (.o d) = noShD d := rfl
@[go_sem] theorem noShA_a (cs : List D) : noShA (.a cs) = allD cs := (propext (allD_eq cs)).symm
@[go_sem] theorem noShE_x (y : A) : noShE (.x y) = noShA y := rfl
@[go_sem] theorem noShE_t (vs : List A) : noShE (.t vs) = allA vs := (propext (allA_eq vs)).symm
@[go_sem] theorem noShR_it (b : ByteArray) (p : Nat) : noShR (.it b p) = True := rfl
@[go_sem] theorem noShR_mp (es : List (Value × Value)) : noShR (.mp es) = True := rfl
@[go_sem] theorem noShR_row (k : Nat) (xs : List (List C)) : noShR (.row k xs) = rowsNo xs := rfl
theorem noShR_bx1 (cs : List D) : noShR (.bx [cs]) = allD cs := by
  apply propext
  rw [allD_eq]
  simp [noShR]
@[go_sem] theorem rowsNo_nil : rowsNo [] = True := by simp [rowsNo]
@[go_sem] theorem rowsNo_cons (c : List C) (l : List (List C)) : rowsNo (c :: l) = (allC c ∧ rowsNo l) := by
  apply propext
  rw [allC_eq]
  simp [rowsNo]
@[go_sem] theorem rowsNo_append (l l' : List (List C)) : rowsNo (l ++ l') = (rowsNo l ∧ rowsNo l') := by
  apply propext
  constructor
  · exact fun h => ⟨fun c hc => h c (by simp [hc]), fun c hc => h c (by simp [hc])⟩
  · rintro ⟨h1, h2⟩ c hc
    rcases List.mem_append.1 hc with h | h
    · exact h1 c h
    · exact h2 c h
@[go_sem] theorem rowsNo_map {X : Type} (f : X → List C) (xs : List X) : rowsNo (xs.map f) = ∀ x ∈ xs, allC (f x) := by
  apply propext
  constructor
  · exact fun h x hx => (allC_eq _).2 (h _ (List.mem_map.2 ⟨x, hx, rfl⟩))
  · intro h c hc
    obtain ⟨x, hx, rfl⟩ := List.mem_map.1 hc
    exact (allC_eq _).1 (h x hx)
attribute [go_sem] allC allD allA noShR_bx1

theorem wrap64 {x : Int} (h0 : -9223372036854775808 ≤ x) (h1 : x < 9223372036854775808) : IntKind.i64.wrap x = x := by
  simp [IntKind.wrap, IntKind.bits, IntKind.signed]
  split <;> omega
theorem ite_intro {c : Prop} [Decidable c] {a b : Prop} (ha : c → a) (hb : ¬ c → b) : if c then a else b := by
  split
  · exact ha ‹_›
  · exact hb ‹_›
@[go_sem] theorem nat_nn (i : Nat) : (0 ≤ (i : Int)) = True := by simp

section
variable {P : Program} {H : Hint} {n : Nat} {env : List (Nat × E)} {rt : List (Nm × Root)} {ep : Nat} {Q : Exit → LS → Prop}
@[go_sem ↓] theorem vc_skip : vcode P H n .skip ⟨env, rt, ep⟩ Q = Q .normal ⟨env, rt, ep⟩ := rfl
@[go_sem ↓] theorem vc_ret : vcode P H n .ret ⟨env, rt, ep⟩ Q = Q .ret ⟨env, rt, ep⟩ := rfl
@[go_sem ↓] theorem vc_exit (id : Nat) : vcode P H n (.exit id) ⟨env, rt, ep⟩ Q = Q (.exit id) ⟨env, rt, ep⟩ := rfl
@[go_sem ↓] theorem vc_seq (a b : Code) : vcode P H n (.seq a b) ⟨env, rt, ep⟩ Q = match inL (firstId b) H.cut with
    | true => CutS P n a b ⟨env, rt, ep⟩ Q
    | false => vcode P H n a ⟨env, rt, ep⟩ (thenV (fun l' => vcode P H n b l' Q) Q) := rfl
@[go_sem ↓] theorem vc_block (id : Nat) (a : Code) : vcode P H n (.block id a) ⟨env, rt, ep⟩ Q = vcode P H n a ⟨env, rt, ep⟩ (blockV id Q) := rfl
@[go_sem ↓] theorem vc_cond (c : Operand) (a b : Code) : vcode P H n (.cond c a b) ⟨env, rt, ep⟩ Q = match evE (lk env) c with
    | some (.x (.o (.c (.v (.bool t))))) => if t = true then vcode P H n a ⟨env, rt, ep⟩ Q else vcode P H n b ⟨env, rt, ep⟩ Q
    | _ => False := rfl
@[go_sem ↓] theorem vc_loop (a : Code) : vcode P H n (.loop a) ⟨env, rt, ep⟩ Q = LoopV P n a (LS.canon ⟨env, rt, ep⟩ (headK H a)) Q := rfl
@[go_sem ↓] theorem vc_reg (id : Nat) (ops : Array Oper) : vcode P H n (.region id ops false) ⟨env, rt, ep⟩ Q = force (LS.enter ⟨env, rt, ep⟩ (lk H.kp id)) fun l1 => fzAt l1 (fun l2 => nlAt l2 (fun l3 => nbAt l3 (fun l' => vops P H ops ops.toList l' fun l'' => Q .normal l'') (lk H.nb id)) (lk H.nl id)) (lk H.fz id) := rfl
@[go_sem ↓] theorem vc_draw (id : Nat) (ops : Array Oper) : vcode P H n (.region id ops true) ⟨env, rt, ep⟩ Q = force (LS.enter ⟨env, rt, ep⟩ (lk H.kp id)) fun l1 => fzAt l1 (fun l2 => nlAt l2 (fun l3 => nbAt l3 (fun l' => vopsD P H (anOf H.an id) ops ops.toList l' [] fun l'' => Q .normal l'') (lk H.nb id)) (lk H.nl id)) (lk H.fz id) := rfl
end

section
variable {P : Program} {H : Hint} {ops : Array Oper} {T : List Nat} {env : List (Nat × E)} {rt : List (Nm × Root)} {ep : Nat}
@[go_sem ↓] theorem vops_nil {K : LS → Prop} : vops P H ops [] ⟨env, rt, ep⟩ K = K ⟨env, rt, ep⟩ := rfl
@[go_sem ↓] theorem vops_cons {K : LS → Prop} (o : Oper) (rest : List Oper) : vops P H ops (o :: rest) ⟨env, rt, ep⟩ K = vop P H ops o ⟨env, rt, ep⟩ fun l' => vops P H ops rest l' K := rfl
@[go_sem ↓] theorem vop_mk {K : LS → Prop} (o : Oper) : vop P H ops o ⟨env, rt, ep⟩ K = match o.guard with
  | none => vexec P H o (lk rt) ⟨env, rt, ep⟩ fun l' _ => K l'
  | some (j, want) => match (ops[j]?).bind (·.dst) with
    | some t => match lk env t with
      | some (.x (.o (.c (.v (.bool b))))) => if b = want then vexec P H o (lk rt) (LS.put ⟨env, rt, ep⟩ t (sc (.bool want))) (fun l' _ => K l') else force (LS.app (LS.put ⟨env, rt, ep⟩ t (sc (.bool !want))) o.dst (some (.t [])) []) K
      | some (.t []) => force (LS.app ⟨env, rt, ep⟩ o.dst (some (.t [])) []) K
      | _ => False
    | none => False := rfl
@[go_sem ↓] theorem vopsD_nil {K : LS → Prop} (acc : List FP) : vopsD P H T ops [] ⟨env, rt, ep⟩ acc K = (chk T 0 acc acc = true ∧ K ⟨env, rt, ep⟩) := rfl
@[go_sem ↓] theorem vopsD_cons {K : LS → Prop} (o : Oper) (rest : List Oper) (acc : List FP) : vopsD P H T ops (o :: rest) ⟨env, rt, ep⟩ acc K = vopD P H ops o ⟨env, rt, ep⟩ fun l' fp => vopsD P H T ops rest l' (acc ++ [fp]) K := rfl
@[go_sem ↓] theorem vopD_mk {K : LS → FP → Prop} (o : Oper) : vopD P H ops o ⟨env, rt, ep⟩ K = match nfL (footN ⟨env, rt, ep⟩ o) with
  | none => False
  | some R => match o.guard with
    | none => vexec P H o (lk (pickR rt R)) ⟨env, rt, ep⟩ fun l' rts => K l' ⟨rts.map (·.1), R⟩
    | some (j, want) => match (ops[j]?).bind (·.dst) with
      | some t => match lk env t with
        | some (.x (.o (.c (.v (.bool b))))) => if b = want then vexec P H o (lk (pickR rt R)) (LS.put ⟨env, rt, ep⟩ t (sc (.bool want))) (fun l' rts => K l' ⟨rts.map (·.1), R⟩) else force (LS.app (LS.put ⟨env, rt, ep⟩ t (sc (.bool !want))) o.dst (some (.t [])) []) fun l' => K l' ⟨[], []⟩
        | some (.t []) => force (LS.app ⟨env, rt, ep⟩ o.dst (some (.t [])) []) fun l' => K l' ⟨[], []⟩
        | _ => False
      | none => False := rfl
@[go_sem] theorem app_ss (d : Nat) (e : E) (rts : List (Nm × Option Root)) : LS.app ⟨env, rt, ep⟩ (some d) (some e) rts = ⟨(d, e) :: env, setR rt rts, ep⟩ := rfl
@[go_sem] theorem app_sn (d : Nat) (rts : List (Nm × Option Root)) : LS.app ⟨env, rt, ep⟩ (some d) none rts = ⟨rmv d env, setR rt rts, ep⟩ := rfl
@[go_sem] theorem app_ns (e : E) (rts : List (Nm × Option Root)) : LS.app ⟨env, rt, ep⟩ none (some e) rts = ⟨env, setR rt rts, ep⟩ := rfl
@[go_sem] theorem app_nn (rts : List (Nm × Option Root)) : LS.app ⟨env, rt, ep⟩ none none rts = ⟨env, setR rt rts, ep⟩ := rfl
@[go_sem] theorem put_mk (d : Nat) (e : E) : LS.put ⟨env, rt, ep⟩ d e = ⟨(d, e) :: env, rt, ep⟩ := rfl
@[go_sem ↓] theorem callE_x {l : LS} {dst : Option Nat} {ps : List Nm} {lend : Bool} {y : A} {rout : List (Option Root)} {K : LS → List (Nm × Option Root) → Prop} : callE l dst ps lend (.x y) rout K =
  ((ps.length ≤ rout.length ∧ rout.length - ps.length ≤ 100 ∧ (match decide (ps.length < rout.length), dst with | true, none => False | _, _ => True) ∧ (match lend with | true => noShE (.x y) ∧ noShO rout | false => True)) ∧
    match (callN l.ep (dst.getD 0) ps rout.length).zip (rout.map (Option.map (backR (callN l.ep (dst.getD 0) ps rout.length)))) with
    | rts => force (l.app dst (some (backE (callN l.ep (dst.getD 0) ps rout.length) (.x y))) rts) fun l' => K l' rts) := rfl
@[go_sem ↓] theorem callE_t {l : LS} {dst : Option Nat} {ps : List Nm} {lend : Bool} {vs : List A} {rout : List (Option Root)} {K : LS → List (Nm × Option Root) → Prop} : callE l dst ps lend (.t vs) rout K =
  ((ps.length ≤ rout.length ∧ rout.length - ps.length ≤ 100 ∧ (match decide (ps.length < rout.length), dst with | true, none => False | _, _ => True) ∧ (match lend with | true => noShE (.t vs) ∧ noShO rout | false => True)) ∧
    match (callN l.ep (dst.getD 0) ps rout.length).zip (rout.map (Option.map (backR (callN l.ep (dst.getD 0) ps rout.length)))) with
    | rts => force (l.app dst (some (backE (callN l.ep (dst.getD 0) ps rout.length) (.t vs))) rts) fun l' => K l' rts) := rfl
end
attribute [go_sem ↓] vexec vcall vargs callK callR force
attribute [go_sem] decide_eq_true_eq decide_eq_false_iff_not Bool.not_eq_true' Bool.not_eq_false' decide_not bne_iff_ne
attribute [go_sem] inL nlAt LS.nilAt LS.nils nbAt LS.nilB LS.nilB1 List.nodup_cons List.nodup_nil
attribute [go_sem] fzD fzA fzE fzR mapV LS.freeze1 LS.freeze rowsN fzAt retL
attribute [go_sem] nfL List.getD_cons_zero List.getD_cons_succ List.getD_nil Array.toList_append List.append_toArray
attribute [go_sem] hasN disj chkW chk pickR footN anOf Op.operands Call.operands Nat.testBit
attribute [go_sem] nf_mk
attribute [go_sem] rootsP passN ptrD refD ptrE refE refR reach dd passD passA passE passR ix ofVs LS.enter pickEnv evE core ofV sc setR thenV blockV endV finV resA passT outN outR valsE
  startV envOf rtOf endR finR finW finWR nilV setAt firstId headK LS.canon inUse oldR newR rnN isNew gD gA gE gR deadN backN backD backA backE backR callN isP addP partA mkA ldE stE Root.get Root.set Root.len unC unCs isI isB isU binV unV lenE
  Root.klen ixE bndE Root.rowsk slE unDs fillD evParts zeroD placesT shutD setRows shutR delR toV toVs lkE kc srcE asA cellsA pk noShO numE TD.agg sp upd

attribute [go_sem] List.all_cons List.all_nil Value.oneCell' Bool.or_true Bool.true_or Bool.false_or Bool.or_false
attribute [go_sem] List.set_cons_zero List.set_cons_succ List.replicate_succ List.replicate_zero
attribute [go_sem] Int.toNat_natCast List.length_map
attribute [go_sem] List.zip_cons_cons List.zip_nil_left List.forall_mem_cons false_implies implies_true ne_eq not_false_eq_true not_true_eq_false List.getElem?_map decide_true decide_false Bool.and_true Bool.true_and Bool.and_false Bool.false_and
attribute [go_sem] Nat.zero_add Prod.mk.injEq and_true true_and and_false false_and if_true if_false Bool.false_eq_true Bool.true_eq_false Bool.not_true Bool.not_false Option.map_some Option.map_none List.length_cons
  List.length_nil List.map_cons List.map_nil List.flatMap_cons List.flatMap_nil List.cons_append List.nil_append List.append_nil List.getElem?_cons_zero List.getElem?_cons_succ List.getElem?_nil List.filter_cons List.filter_nil
  List.mem_cons List.not_mem_nil or_false false_or List.drop_zero List.drop_succ_cons List.take_succ_cons List.take_zero Option.bind_some Option.bind_none Option.getD_some Option.getD_none true_implies id_eq List.getElem?_toArray

end Go.Proofs.YtcgkhljolflenaaGreatW.V

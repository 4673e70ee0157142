/- Functions: the clash of a chain. No condition but each theorem's own. -/
import Derived.Test.YtcgkhljolflenaaGreatFGQ
import Derived.Test.YtcgkhljolflenaaGreatFQD
import Derived.Test.YtcgkhljolflenaaGreatFQI
namespace Go.Proofs.YtcgkhljolflenaaGreatW.V
open Go Go.Proofs
set_option linter.unusedSimpArgs false
set_option linter.unusedVariables false
set_option maxRecDepth 8000
set_option maxHeartbeats 4000000

set_option synthInstance.maxSize 1000

theorem growM_le (l : List ByteArray) (m : Int) : (growM l m).1.length ≤ l.length := by
  unfold growM
  split
  · unfold growN
    split
    · exact Nat.zero_le _
    · rename_i h1 h
      rw [List.length_map, List.length_append]
      rcases Nat.eq_zero_or_pos l.length with h0 | h0
      · have : growOk l m = true := h1
        unfold growOk at this
        simp only [Bool.and_eq_true, decide_eq_true_eq] at this
        omega
      · have := (fall_in 0 l.length m.toNat h0).2.2
        omega
  · exact Nat.zero_le _
abbrev MProof : FM := .f2 (eList cStr) (eInt .i64) (eList cDigest).enc (fun l m => (growM l m).1) (fun l _ => l.length ≤ 1048576)
attribute [go_sem] MProof
def H_spec_l3Proof : Hint := { fs := [(88, OGrow)], kp := [(0, [0, 1]), (1, [0, 1]), (2, [5])], an := [] }
attribute [go_sem] H_spec_l3Proof
theorem ok_H_spec_l3Proof : H_spec_l3Proof.ok Tryz.prog := AllOk.okR (.cons ok_spec_GrowthOf .nil) .nil mix
theorem f_l3Proof (l : List ByteArray) (m : Int) (h : l.length ≤ 1048576) : VFun Tryz.prog 42 [(eList cStr).enc l, (eInt .i64).enc m] [] ((eList cDigest).enc (growM l m).1) [] := by
  refine VFun_pure (n := 14) (rs := [.tmp 4]) Tryz.func42 rfl rfl rfl rfl H_spec_l3Proof ok_H_spec_l3Proof _ _ (Nat.le_of_ble_eq_true rfl) (by kernel_rfl) ?_
  simp only [go_sem, ↓reduceIte, reduceCtorEq, Nat.reduceAdd, Nat.reduceMul, Nat.reduceEqDiff, Nat.reduceSub, Nat.reduceLT, Nat.reduceLeDiff, Nat.reduceAnd, Nat.reduceShiftRight, Nat.reduceBEq, Nat.reduceBNe, Nat.reduceBneDiff, Nat.reduceBeqDiff, Int.reduceToNat, Int.reduceLE, Int.reduceLT, Int.reduceEq]
  exact h
theorem ok_spec_l3Proof : MProof.ok Tryz.prog 42 := FM.f2_ok fun l m h => f_l3Proof l m h

abbrev ptE (p : Point) : A := .a [.c (.v (.int .i64 p.1)), .c (.v (.int .u64 p.2.1.toNat)), .c (.v (.int .u64 p.2.2.1.toNat)), .c (.v (.int .u64 p.2.2.2.1.toNat)), .c (.v (.int .u64 p.2.2.2.2.toNat))]
attribute [go_sem] ptE
abbrev stepsP (gs : List Growth) (n k : Nat) : Prop := gs.length ≤ n ∧ ∀ g ∈ gs, g.2.length ≤ k
theorem chainF_add : ∀ (a : List Growth) (g : Growth) (p q : Point), chainF p a = some q → grcM q g.1 g.2 = 0 → chainF p (a ++ [g]) = some g.1
  | [], g, p, q, h, hg => by
    cases h
    rw [List.nil_append, chainF, if_pos hg]; rfl
  | x :: a, g, p, q, h, hg => by
    rw [List.cons_append, chainF]
    rw [chainF] at h
    split at h
    · rename_i hx
      rw [if_pos hx]
      exact chainF_add a g x.1 q h hg
    · cases h
theorem leavesOk_by {l : List ByteArray} (h1 : l.length ≤ 256) (h2 : ∀ x ∈ l, x.size ≤ 40) : leavesOk l = true := by
  rw [leavesOk_good fun i x _ hx => by have := h2 x (List.mem_of_getElem? hx); omega]
  exact decide_eq_true (by omega)
/-- Where a chain that is drawn leads. -/
abbrev leadsP (l : List ByteArray) (m : Int) (f : Point) (gs : List Growth) : Prop := ∃ a : Nat, m ≤ a ∧ a ≤ l.length ∧ chainF f gs = some (treePt (l.take a))
abbrev RChain : FR where
  md := []
  m args rin := match args, rin with
    | [.x (.o (.p (0, 0) 0 0 1)), e2, .x (.o (.c (.v (.int .i64 m))))], [.bx [[.p (0, 1) 0 0 1]], .bx [[.p (0, 2) 0 0 1]], .bx [[.p (0, 3) 0 0 1]], .bx [[.c (.s rows), .c (.v (.int .i64 p))]]] => match mapO cU8.dec rows, (eList cStr).dec e2 with
      | some b, some l => some (rows = b.map cU8.enc ∧ 0 ≤ p ∧ p + 10 ≤ rdM ∧ (1 ≤ l.length ∧ l.length ≤ 256) ∧ (∀ x ∈ l, x.size ≤ 40) ∧ 0 ≤ m ∧ m ≤ l.length, fun k => ∀ (f : Point) (gs : List Growth) q, p ≤ q ∧ q ≤ p + 10 ∧ stepsP gs 5 256 ∧ leadsP l m f gs → k (.t [ptE f, .o (.h (0, 4) 0 gs.length gs.length)]) [some (bxP 1), some (bxP 2), some (bxP 3), some (rdR b q), some (oR cGrowth gs)])
      | _, _ => none
    | _, _ => none
attribute [go_sem] RChain
theorem RChain_ok {P : Program} {g : FuncId} (h : ∀ (b : List UInt8) (p : Int) (l : List ByteArray) (m : Int), 0 ≤ p → p + 10 ≤ rdM → (1 ≤ l.length ∧ l.length ≤ 256) → (∀ x ∈ l, x.size ≤ 40) → 0 ≤ m ∧ m ≤ l.length → ∃ t : (Point × List Growth) × Int, (p ≤ t.2 ∧ t.2 ≤ p + 10 ∧ stepsP t.1.2 5 256 ∧ leadsP l m t.1.1 t.1.2) ∧ VFun P g [rdP, (eList cStr).enc l, (eInt .i64).enc m] [some (bxP 1), some (bxP 2), some (bxP 3), some (rdR b p)] (.t [ptE t.1.1, .o (.h (0, 4) 0 t.1.2.length t.1.2.length)]) [some (bxP 1), some (bxP 2), some (bxP 3), some (rdR b t.2), some (oR cGrowth t.1.2)]) : RChain.ok P g := by
  intro args rin pr W hm hp k hk
  simp only [RChain] at hm
  split at hm
  · split at hm
    · rename_i e2 m rows p _ _ b l h1 h2
      cases hm
      obtain ⟨e, h3, h4, h5, h5', h6⟩ := hp
      subst e
      obtain ⟨t, h7, h8⟩ := h b p l m h3 h4 h5 h5' h6
      exact ⟨_, _, h8.weaken (.cons (fun _ _ _ _ _ h => h) (.cons ((eList cStr).ok _ _ h2) (.cons (fun _ _ _ _ _ h => h) .nil))), hk _ _ _ h7⟩
    · cases hm
  · cases hm

def H_spec_l4Rd_chain : Hint := { fs := [(41, MTreePoint), (42, MProof)], kp := [(0, [0, 1, 2]), (1, [0, 1, 2, 6]), (2, [0, 1, 2, 6, 8]), (3, [0, 1, 2, 6, 8, 9]), (4, [0, 1, 2, 6, 8, 9, 10]), (6, [0, 1, 2, 6, 8, 9, 10]), (7, [0, 1, 2, 6, 8, 9, 10, 11]), (8, [0, 1, 2, 6, 8, 10, 11]), (5, [0, 1, 2, 6, 8, 9, 10]), (9, [1, 2, 6, 8])], an := [(7, [0, 0, 0, 6, 14, 0, 0, 96, 0, 510, 1022, 2046, 4095, 8191])], rs := [(16, RPick)], own := true }
attribute [go_sem] H_spec_l4Rd_chain
theorem ok_H_spec_l4Rd_chain : H_spec_l4Rd_chain.ok Tryz.prog := AllOk.okR (.cons ok_spec_TreePoint (.cons ok_spec_l3Proof .nil)) (.cons ok_spec_l1Rd_pick .nil) mix
theorem f_chain (b : List UInt8) (p : Int) (l : List ByteArray) (m : Int) (h0 : 0 ≤ p) (h1 : p + 10 ≤ rdM) (hl : 1 ≤ l.length ∧ l.length ≤ 256) (hx : ∀ x ∈ l, x.size ≤ 40) (hm : 0 ≤ m ∧ m ≤ l.length) : ∃ t : (Point × List Growth) × Int, (p ≤ t.2 ∧ t.2 ≤ p + 10 ∧ stepsP t.1.2 5 256 ∧ leadsP l m t.1.1 t.1.2) ∧ VFun Tryz.prog 17 [rdP, (eList cStr).enc l, (eInt .i64).enc m] [some (bxP 1), some (bxP 2), some (bxP 3), some (rdR b p)] (.t [ptE t.1.1, .o (.h (0, 4) 0 t.1.2.length t.1.2.length)]) [some (bxP 1), some (bxP 2), some (bxP 3), some (rdR b t.2), some (oR cGrowth t.1.2)] := by
  unfold rdM at h1
  refine VFun_relE (n := 66) (rs := [.cell 6 27, .tmp 7]) Tryz.func17 rfl rfl rfl rfl H_spec_l4Rd_chain ok_H_spec_l4Rd_chain  (rin := [bxP 1, bxP 2, bxP 3, rdR b p]) (T := (Point × List Growth) × Int) (fun t => .t [ptE t.1.1, .o (.h (0, 4) 0 t.1.2.length t.1.2.length)]) (fun t => [some (bxP 1), some (bxP 2), some (bxP 3), some (rdR b t.2), some (oR cGrowth t.1.2)]) (fun t => p ≤ t.2 ∧ t.2 ≤ p + 10 ∧ stepsP t.1.2 5 256 ∧ leadsP l m t.1.1 t.1.2) (Nat.le_of_ble_eq_true rfl) (by kernel_rfl) ?_
  simp only [go_sem, ↓reduceIte, reduceCtorEq, Nat.reduceAdd, Nat.reduceMul, Nat.reduceEqDiff, Nat.reduceSub, Nat.reduceLT, Nat.reduceLeDiff, Nat.reduceAnd, Nat.reduceShiftRight, Nat.reduceBEq, Nat.reduceBNe, Nat.reduceBneDiff, Nat.reduceBeqDiff, Int.reduceToNat, Int.reduceLE, Int.reduceLT, Int.reduceEq]
  refine ⟨by omega, ?_⟩; rintro k p0 g0
  refine LoopV.go (H := H_spec_l4Rd_chain) ok_H_spec_l4Rd_chain (by kernel_rfl) (fun y : List Growth × Int × Int × Int => ⟨[(0, rdP), (1, .x (.o (.c (.s (l.map cStr.enc))))), (2, sc (.int .i64 m)), (6, .x (.o (.p (1, 100) 0 0 1))), (8, .x (.o (.h (1, 101) 0 y.1.length y.1.length))), (9, sc (.int .i64 y.2.1)), (10, sc (.int .i64 y.2.2.1))], [((0, 0), bxP 1), ((0, 1), bxP 2), ((0, 2), bxP 3), ((0, 3), rdR b y.2.2.2), ((1, 100), bxPt (0, 0, 0, 0, 0)), ((1, 101), .row 6 (y.1.map cGrowth.enc))], 2⟩) (fun y => y.2.2.1.toNat) (fun y => ((y.1.length : Int) + y.2.2.1 ≤ 5 ∧ 0 ≤ y.2.2.1) ∧ (0 ≤ y.2.1 ∧ y.2.1 ≤ l.length) ∧ (p ≤ y.2.2.2 ∧ y.2.2.2 ≤ p + 1 + y.1.length) ∧ (∀ g ∈ y.1, g.2.length ≤ 256) ∧ m ≤ y.2.1 ∧ chainF (treePt (l.take m.toNat)) y.1 = some (treePt (l.take y.2.1.toNat))) ?_ ([], m, k, p0) ⟨by simp; omega, by dsimp only; omega, by simp; omega, by simp, Int.le_refl _, rfl⟩
  rintro ⟨gs, a, k, q⟩ ⟨j1, j2, j3, j4, j5, j6⟩
  dsimp only at j1 j2 j3 j4 j5 j6
  have hok := leavesOk_by hl.2 hx
  by_cases hk : 0 < k
  case neg =>
    simp only [go_sem, ↓reduceIte, reduceCtorEq, Nat.reduceAdd, Nat.reduceMul, Nat.reduceEqDiff, Nat.reduceSub, Nat.reduceLT, Nat.reduceLeDiff, Nat.reduceAnd, Nat.reduceShiftRight, Nat.reduceBEq, Nat.reduceBNe, Nat.reduceBneDiff, Nat.reduceBeqDiff, Int.reduceToNat, Int.reduceLE, Int.reduceLT, Int.reduceEq, hk]
    exact ⟨⟨by omega, by omega⟩, by rw [List.length_take]; omega, ((_, gs), q), ⟨by dsimp only; omega, by dsimp only; omega, ⟨by dsimp only; omega, j4⟩, a.toNat, by omega, by omega, j6⟩, rfl, rfl⟩
  have w1 : IntKind.i64.wrap ((l.length : Int) - a) = (l.length : Int) - a := by rw [wrap64] <;> omega
  have w2 : IntKind.i64.wrap ((l.length : Int) - a + 1) = (l.length : Int) - a + 1 := by rw [wrap64] <;> omega
  have w3 : IntKind.i64.wrap (k - 1) = k - 1 := by rw [wrap64] <;> omega
  simp only [go_sem, ↓reduceIte, reduceCtorEq, Nat.reduceAdd, Nat.reduceMul, Nat.reduceEqDiff, Nat.reduceSub, Nat.reduceLT, Nat.reduceLeDiff, Nat.reduceAnd, Nat.reduceShiftRight, Nat.reduceBEq, Nat.reduceBNe, Nat.reduceBneDiff, Nat.reduceBeqDiff, Int.reduceToNat, Int.reduceLE, Int.reduceLT, Int.reduceEq, hk, w1, w2, w3]
  refine ⟨⟨by omega, by omega⟩, fun v q2 g2 => ?_⟩
  have w4 : IntKind.i64.wrap (a + v) = a + v := by rw [wrap64] <;> omega
  simp only [w4]
  refine ⟨⟨by omega, by omega⟩, by rw [List.length_take]; omega, ⟨by omega, by omega⟩, by rw [List.length_take]; omega, by omega, (gs ++ [(treePt (l.take (a + v).toNat), (growM (l.take (a + v).toNat) a).1)], a + v, k - 1, q2), ⟨by simp; omega, by dsimp only; omega, by simp; omega, fun g hg => ?_, by dsimp only; omega, ?_⟩, by dsimp only; omega, by rw [List.length_append, List.map_append]; rfl⟩
  rotate_left
  · refine chainF_add gs _ _ _ j6 ?_
    have hg := grc_honest hok (m := a.toNat) (n := (a + v).toNat) (by omega) (by omega)
    rw [Int.toNat_of_nonneg j2.1] at hg
    exact hg
  rcases List.mem_append.1 hg with hg | hg
  · exact j4 g hg
  · rw [List.mem_singleton.1 hg]
    have := growM_le (l.take (a + v).toNat) a
    rw [List.length_take] at this
    dsimp only
    omega
theorem ok_spec_l4Rd_chain : RChain.ok Tryz.prog 17 := RChain_ok fun b p l m h0 h1 h2 h3 h4 => f_chain b p l m h0 h1 h2 h3 h4

/-- The texts that make the peaks' root, for the nodes that a leaf is in. -/
def prowM (a m i : Nat) : List Digest → List ByteArray
  | d :: e :: ds => pairT d (peaksR (e :: ds)) :: (if i < a + halfN (m - a) then [] else prowM (a + halfN (m - a)) m i (e :: ds))
  | _ => []
theorem foldP_pre {bs : List Bool} {q r : List Digest} {d0 : Digest} {k : Nat} (h : k ≤ q.length) : foldP bs (q ++ r) d0 k = foldP bs q d0 k := foldP_congr fun j hj => by
  refine ⟨rfl, ?_⟩
  rw [List.getD_eq_getElem?_getD, List.getD_eq_getElem?_getD, List.getElem?_append_left (by omega)]
theorem pair_clash {a b c d : Digest} (hne : ¬ pairT a b = pairT c d) (h : pairH a b = pairH c d) : ((pairT a b).size ≤ 65 ∧ (pairT c d).size ≤ 65) ∧ clashM (pairT a b, pairT c d) = true := by
  have s1 := pairT_size a b
  have s2 := pairT_size c d
  refine ⟨⟨by omega, by omega⟩, ?_⟩
  unfold clashM
  dsimp only
  rw [decide_eq_true hne, decide_eq_true (show ((pairT a b).size : Int) ≤ 20000 by omega), decide_eq_true (show ((pairT c d).size : Int) ≤ 20000 by omega), decide_eq_true (show hashOf (pairT a b) = hashOf (pairT c d) from h)]; rfl
theorem half_split {a m : Nat} (h : a + halfN (m - a) < m) : 2 ≤ m - a ∧ splitN (m - a) = halfN (m - a) := by
  have k1 := halfN_pos (m - a)
  have h2 : m - a < 2 * halfN (m - a) := by
    have := Nat.lt_log2_self (n := m - a)
    unfold halfN
    rw [Nat.pow_succ] at this
    omega
  exact ⟨by omega, splitN_eq rfl (by omega) (by omega)⟩

theorem peaks_clash (x : ByteArray) (m i : Nat) (him : i < m) : ∀ (ds : List Digest) (a : Nat) (q : List Digest), a ≤ i → ds.length = (peaksN a m).length → ds.length ≤ 8 → q.length = (dirsM (m - a) (i - a)).length →
    (foldP (dirsM (m - a) (i - a)).reverse q (leafH x) q.length).2 = peaksR ds →
    (∃ c, firstM (downM (m - a) (i - a) x q) (prowM a m i ds) = (c, true) ∧ (c.1.size ≤ 65 ∧ c.2.size ≤ 65) ∧ clashM c = true) ∨
    ∃ (k : Nat) (X : Nat × Nat) (d : Digest), (peaksN a m)[k]? = some X ∧ ds[k]? = some d ∧ X.1 ≤ i ∧ i < X.2 ∧ (dirsM (X.2 - X.1) (i - X.1)).length ≤ q.length ∧ (foldP (dirsM (X.2 - X.1) (i - X.1)).reverse q (leafH x) (dirsM (X.2 - X.1) (i - X.1)).length).2 = d
  | [], a, q, h1, h2, _, _, _ => by rw [peaksN_go (by omega), List.length_cons] at h2; cases h2
  | [d], a, q, h1, h2, _, h4, h5 => by
    have hp := halfN_in (show a < m by omega)
    rw [peaksN_go (by omega)] at h2
    simp only [List.length_cons, List.length_nil] at h2
    have he : a + halfN (m - a) = m := by
      rcases Nat.lt_or_ge (a + halfN (m - a)) m with h | h
      · rw [peaksN_go h, List.length_cons] at h2; omega
      · omega
    refine .inr ⟨0, (a, m), d, by rw [peaksN_go (by omega), he]; rfl, rfl, h1, him, by dsimp only; omega, ?_⟩
    dsimp only
    rw [← h4, h5]; rfl
  | d :: e :: ds, a, q, h1, h2, h3, h4, h5 => by
    have hp := halfN_in (show a < m by omega)
    rw [peaksN_go (by omega)] at h2
    simp only [List.length_cons] at h2
    have hlt : a + halfN (m - a) < m := by
      rcases Nat.lt_or_ge (a + halfN (m - a)) m with h | h
      · exact h
      · rw [peaksN_end h] at h2; simp at h2
    obtain ⟨g1, g2⟩ := half_split hlt
    rw [peaksR_2 (by simpa using h3) (by simp)] at h5
    by_cases hi : i < a + halfN (m - a)
    · have hd : dirsM (m - a) (i - a) = true :: dirsM (halfN (m - a)) (i - a) := by rw [dirsM_l g1 (by omega), g2]
      rw [hd, List.length_cons] at h4
      rcases List.eq_nil_or_concat q with rfl | ⟨rest, last, rfl⟩
      · cases h4
      have hr : rest.length = (dirsM (halfN (m - a)) (i - a)).length := by simpa using h4
      rw [List.concat_eq_append] at h5 ⊢
      rw [hd, List.length_append, List.length_singleton, foldP_top hr] at h5
      unfold downM
      rw [hd, List.length_append, List.length_singleton, down_top hr, prowM, if_pos hi]
      by_cases ht : pairT (stepP true (foldP (dirsM (halfN (m - a)) (i - a)).reverse rest (leafH x) rest.length).2 last).1 (stepP true (foldP (dirsM (halfN (m - a)) (i - a)).reverse rest (leafH x) rest.length).2 last).2 = pairT d (peaksR (e :: ds))
      · refine .inr ⟨0, (a, a + halfN (m - a)), d, by rw [peaksN_go (by omega)]; rfl, rfl, h1, hi, ?_, ?_⟩
        · dsimp only; rw [show a + halfN (m - a) - a = halfN (m - a) by omega]; omega
        · dsimp only
          rw [show a + halfN (m - a) - a = halfN (m - a) by omega, foldP_pre (by omega), ← hr]
          exact (pairT_inj ht).1
      · exact .inl ⟨_, firstM_ne ht, pair_clash ht h5⟩
    · have hd : dirsM (m - a) (i - a) = false :: dirsM (m - (a + halfN (m - a))) (i - (a + halfN (m - a))) := by
        rw [dirsM_r g1 (by omega), g2, show m - a - halfN (m - a) = m - (a + halfN (m - a)) by omega, show i - a - halfN (m - a) = i - (a + halfN (m - a)) by omega]
      rw [hd, List.length_cons] at h4
      rcases List.eq_nil_or_concat q with rfl | ⟨rest, last, rfl⟩
      · cases h4
      have hr : rest.length = (dirsM (m - (a + halfN (m - a))) (i - (a + halfN (m - a)))).length := by simpa using h4
      rw [List.concat_eq_append] at h5 ⊢
      rw [hd, List.length_append, List.length_singleton, foldP_top hr] at h5
      unfold downM
      rw [hd, List.length_append, List.length_singleton, down_top hr, prowM, if_neg hi]
      by_cases ht : pairT (stepP false (foldP (dirsM (m - (a + halfN (m - a))) (i - (a + halfN (m - a)))).reverse rest (leafH x) rest.length).2 last).1 (stepP false (foldP (dirsM (m - (a + halfN (m - a))) (i - (a + halfN (m - a)))).reverse rest (leafH x) rest.length).2 last).2 = pairT d (peaksR (e :: ds))
      · rw [ht, firstM_eq]
        have ih := peaks_clash x m i him (e :: ds) (a + halfN (m - a)) rest (by omega) (by simp only [List.length_cons]; omega) (by simp only [List.length_cons] at h3 ⊢; omega) hr (pairT_inj ht).2
        rcases ih with ih | ⟨k, X, y, i1, i2, i3, i4, i5, i6⟩
        · exact .inl ih
        · refine .inr ⟨k + 1, X, y, by rw [peaksN_go (by omega), List.getElem?_cons_succ]; exact i1, by rw [List.getElem?_cons_succ]; exact i2, i3, i4, by omega, ?_⟩
          rw [foldP_pre i5]; exact i6
      · exact .inl ⟨_, firstM_ne ht, pair_clash ht h5⟩

/-- What stands beside the way from the whole down to a known node, and that node. -/
def overW (M : NodeMap) (lo hi i : Nat) : List Digest × (Nat × Nat) := match findN M ((lo : Int), (hi : Int)) with
  | some _ => ([], (lo, hi))
  | none => if h : 2 ≤ hi - lo then (if i < lo + splitN (hi - lo) then (digW M (lo + splitN (hi - lo)) hi :: (overW M lo (lo + splitN (hi - lo)) i).1, (overW M lo (lo + splitN (hi - lo)) i).2)
      else (digW M lo (lo + splitN (hi - lo)) :: (overW M (lo + splitN (hi - lo)) hi i).1, (overW M (lo + splitN (hi - lo)) hi i).2)) else ([], (lo, hi))
termination_by hi - lo
decreasing_by
  all_goals first | (have := splitN_lt h; omega) | (have := splitN_pos (hi - lo); omega)
theorem overW_at {M : NodeMap} {lo hi i : Nat} {d : Digest} (h : findN M ((lo : Int), (hi : Int)) = some d) : overW M lo hi i = ([], (lo, hi)) := by rw [overW, h]
theorem overW_l {M : NodeMap} {lo hi i : Nat} (h : findN M ((lo : Int), (hi : Int)) = none) (h2 : 2 ≤ hi - lo) (h3 : i < lo + splitN (hi - lo)) : overW M lo hi i = (digW M (lo + splitN (hi - lo)) hi :: (overW M lo (lo + splitN (hi - lo)) i).1, (overW M lo (lo + splitN (hi - lo)) i).2) := by
  rw [overW, h]
  exact (dif_pos h2).trans (if_pos h3)
theorem overW_r {M : NodeMap} {lo hi i : Nat} (h : findN M ((lo : Int), (hi : Int)) = none) (h2 : 2 ≤ hi - lo) (h3 : ¬ i < lo + splitN (hi - lo)) : overW M lo hi i = (digW M lo (lo + splitN (hi - lo)) :: (overW M (lo + splitN (hi - lo)) hi i).1, (overW M (lo + splitN (hi - lo)) hi i).2) := by
  rw [overW, h]
  exact (dif_pos h2).trans (if_neg h3)
theorem Cov_mid {M : NodeMap} {lo hi : Nat} (hc : Cov M lo hi) (h : findN M ((lo : Int), (hi : Int)) = none) : 2 ≤ hi - lo ∧ Cov M lo (lo + splitN (hi - lo)) ∧ Cov M (lo + splitN (hi - lo)) hi := by
  cases hc with
  | «at» g => rw [h] at g; cases g
  | mid h2 a b => exact ⟨h2, a, b⟩
/-- Where it ends, how long it is, and that a path below is carried up. -/
theorem over_end {M : NodeMap} (i : Nat) (x : ByteArray) (n : Nat) : ∀ (lo hi : Nat), hi - lo < n → Cov M lo hi → lo ≤ i → i < hi →
    (∃ d, findN M (((overW M lo hi i).2.1 : Int), ((overW M lo hi i).2.2 : Int)) = some d ∧ (lo ≤ (overW M lo hi i).2.1 ∧ (overW M lo hi i).2.1 ≤ i) ∧ (i < (overW M lo hi i).2.2 ∧ (overW M lo hi i).2.2 ≤ hi) ∧
      ∀ q : List Digest, q.length = (dirsM ((overW M lo hi i).2.2 - (overW M lo hi i).2.1) (i - (overW M lo hi i).2.1)).length →
        (q ++ (overW M lo hi i).1.reverse).length = (dirsM (hi - lo) (i - lo)).length ∧
        ((foldP (dirsM ((overW M lo hi i).2.2 - (overW M lo hi i).2.1) (i - (overW M lo hi i).2.1)).reverse q (leafH x) q.length).2 = d →
          (foldP (dirsM (hi - lo) (i - lo)).reverse (q ++ (overW M lo hi i).1.reverse) (leafH x) (q ++ (overW M lo hi i).1.reverse).length).2 = digW M lo hi)) := by
  induction n with
  | zero => intro lo hi h; omega
  | succ n ih =>
    intro lo hi hn hc h1 h2
    cases hf : findN M ((lo : Int), (hi : Int)) with
    | some d =>
      rw [overW_at hf, digW_at hf]
      refine ⟨d, hf, ⟨by dsimp only; omega, h1⟩, ⟨h2, by dsimp only; omega⟩, fun q hq => ?_⟩
      dsimp only at hq ⊢
      rw [List.reverse_nil, List.append_nil]
      exact ⟨hq, fun h => h⟩
    | none =>
      obtain ⟨g1, g2, g3⟩ := Cov_mid hc hf
      have k1 := splitN_lt g1
      have k2 := splitN_pos (hi - lo)
      rw [digW_mid hf g1]
      by_cases hi' : i < lo + splitN (hi - lo)
      · rw [overW_l hf g1 hi', dirsM_l g1 (by omega)]
        dsimp only
        obtain ⟨d, e1, e2, e3, e4⟩ := ih lo (lo + splitN (hi - lo)) (by omega) g2 h1 hi'
        refine ⟨d, e1, by omega, by omega, fun q hq => ?_⟩
        obtain ⟨f1, f2⟩ := e4 q hq
        rw [show lo + splitN (hi - lo) - lo = splitN (hi - lo) by omega] at f1 f2
        rw [List.reverse_cons, ← List.append_assoc]
        refine ⟨by rw [List.length_append, f1, List.length_singleton, List.length_cons], fun hd => ?_⟩
        rw [List.length_append, List.length_singleton, foldP_top f1, f2 hd]; rfl
      · rw [overW_r hf g1 hi', dirsM_r g1 (by omega)]
        dsimp only
        obtain ⟨d, e1, e2, e3, e4⟩ := ih (lo + splitN (hi - lo)) hi (by omega) g3 (by omega) h2
        refine ⟨d, e1, by omega, by omega, fun q hq => ?_⟩
        obtain ⟨f1, f2⟩ := e4 q hq
        rw [show hi - (lo + splitN (hi - lo)) = hi - lo - splitN (hi - lo) by omega, show i - (lo + splitN (hi - lo)) = i - lo - splitN (hi - lo) by omega] at f1 f2
        rw [List.reverse_cons, ← List.append_assoc]
        refine ⟨by rw [List.length_append, f1, List.length_singleton, List.length_cons], fun hd => ?_⟩
        rw [List.length_append, List.length_singleton, foldP_top f1, f2 hd]; rfl

theorem peak_uniq {m i : Nat} (n : Nat) : ∀ (a : Nat), m - a < n → ∀ X ∈ peaksN a m, ∀ Y ∈ peaksN a m, X.1 ≤ i → i < X.2 → Y.1 ≤ i → i < Y.2 → X = Y := by
  induction n with
  | zero => intro a h; omega
  | succ n ih =>
    intro a hn X hX Y hY h1 h2 h3 h4
    by_cases h : a < m
    · obtain ⟨k1, k2⟩ := halfN_in h
      rw [peaksN_go h] at hX hY
      rcases List.mem_cons.1 hX with rfl | hX <;> rcases List.mem_cons.1 hY with rfl | hY
      · rfl
      · have := peaksN_from _ _ Y hY; dsimp only at h2; omega
      · have := peaksN_from _ _ X hX; dsimp only at h4; omega
      · exact ih _ (by omega) X hX Y hY h1 h2 h3 h4
    · rw [peaksN_end (by omega)] at hX; cases hX

/-- Whether a path proves a leaf under a point. -/
def pckM (p : Point) (i : Int) (x : ByteArray) (q : List Digest) : Bool := (rootP p.1 i x q).2 && decide ((rootP p.1 i x q).1 = p.2)
theorem pckM_iff {p : Point} {i : Int} {x : ByteArray} {q : List Digest} : pckM p i x q = true ↔ pathB p.1 i x q = true ∧ (foldP (dirsM p.1.toNat i.toNat).reverse q (leafH x) q.length).2 = p.2 := by
  unfold pckM rootP
  by_cases h : pathB p.1 i x q = true
  · rw [if_pos h]
    simp [h]
  · rw [if_neg h]
    simp [h]
abbrev knownM (m n : Int) (prf : List Digest) : NodeMap := (nodesI m.toNat n.toNat).zip prf
/-- A path carried over a growth. -/
def liftM (m n i : Int) (p prf : List Digest) : List Digest × Bool :=
  if ((0 ≤ m ∧ m ≤ n) ∧ n ≤ 256) ∧ placeOk m i = true ∧ (p.length : Int) = plenM m i ∧ (prf.length : Int) = glM m n then
    (if m = n then (p, true) else (p.take (dirsM ((overW (knownM m n prf) 0 n.toNat i.toNat).2.2 - (overW (knownM m n prf) 0 n.toNat i.toNat).2.1) (i.toNat - (overW (knownM m n prf) 0 n.toNat i.toNat).2.1)).length ++ (overW (knownM m n prf) 0 n.toNat i.toNat).1.reverse, true))
  else ([], false)
/-- The clash of a path and a growth. -/
def clashG (o : Point) (g : Growth) (i : Int) (x : ByteArray) (p : List Digest) : Clash × Bool :=
  if pckM o i x p = true ∧ grcM o g.1 g.2 = 0 then (if pckM g.1 i x (liftM o.1 g.1.1 i p g.2).1 = true then ((⟨#[]⟩, ⟨#[]⟩), false) else firstM (rowM o.1 i x p).1 (prowM 0 o.1.toNat i.toNat (g.2.take (pcM o.1).toNat)))
  else ((⟨#[]⟩, ⟨#[]⟩), false)
theorem grc_0 {o w : Point} {prf : List Digest} (h : grcM o w prf = 0) : ((0 ≤ o.1 ∧ o.1 ≤ w.1) ∧ w.1 ≤ 256) ∧ (prf.length : Int) = glM o.1 w.1 ∧ (0 < o.1 ∧ o.1 < w.1 → peaksR (prf.take (pcM o.1).toNat) = o.2 ∧ digW (knownM o.1 w.1 prf) 0 w.1.toNat = w.2) ∧ (o.1 = w.1 → o.2 = w.2) := by
  unfold grcM at h
  split at h
  · cases h
  rename_i h1
  split at h
  · cases h
  rename_i h2
  split at h
  · cases h
  rename_i h3
  split at h
  · cases h
  rename_i h4
  refine ⟨Classical.not_not.1 h1, Classical.not_not.1 h2, fun hm => ⟨?_, ?_⟩, fun he => ?_⟩
  · exact Classical.not_not.1 fun hne => h3 (.inr ⟨hm, hne⟩)
  · exact Classical.not_not.1 fun hne => h4 (.inr ⟨hm, hne⟩)
  · exact Classical.not_not.1 fun hne => h4 (.inl ⟨he, hne⟩)
theorem place_len {m i : Int} (h1 : 1 ≤ m ∧ m ≤ 256) (h2 : 0 ≤ i ∧ i ≤ m - 1) : placeOk m i = true ∧ plenM m i = ((dirsM m.toNat i.toNat).length : Int) := by
  have h : placeOk m i = true := by unfold placeOk; rw [decide_eq_true h1, decide_eq_true h2]; rfl
  exact ⟨h, if_pos h⟩
/-- A path that is proved is carried; where it is not proved above, there is a clash. -/
theorem growth_clash {o : Point} {g : Growth} {i : Int} {x : ByteArray} {p : List Digest} (h : pckM o i x p = true) (hg : grcM o g.1 g.2 = 0) :
    (liftM o.1 g.1.1 i p g.2).2 = true ∧ (pckM g.1 i x (liftM o.1 g.1.1 i p g.2).1 = false → ∃ c, clashG o g i x p = (c, true) ∧ (c.1.size ≤ 65 ∧ c.2.size ≤ 65) ∧ clashM c = true) := by
  obtain ⟨m, r⟩ := o
  obtain ⟨⟨n, s⟩, prf⟩ := g
  dsimp only at hg ⊢
  obtain ⟨hb, hr⟩ := pckM_iff.1 h
  obtain ⟨b1, b2, b3, b4⟩ := pathB_iff hb
  obtain ⟨g1, g2, g3, g4⟩ := grc_0 hg
  dsimp only at b1 b2 b3 b4 g1 g2 g3 g4 hr
  obtain ⟨p1, p2⟩ := place_len b1 b2
  have hok : ((0 ≤ m ∧ m ≤ n) ∧ n ≤ 256) ∧ placeOk m i = true ∧ (p.length : Int) = plenM m i ∧ (prf.length : Int) = glM m n := ⟨g1, p1, by rw [p2, b4], g2⟩
  by_cases hmn : m = n
  · have hl : liftM m n i p prf = (p, true) := by rw [liftM, if_pos hok, if_pos hmn]
    rw [hl]
    refine ⟨rfl, fun hno => ?_⟩
    have : pckM (n, s) i x p = true := by rw [← hmn, ← g4 hmn]; exact h
    rw [this] at hno; cases hno
  obtain ⟨m, rfl⟩ := Int.eq_ofNat_of_zero_le (show 0 ≤ m by omega)
  obtain ⟨n, rfl⟩ := Int.eq_ofNat_of_zero_le (show 0 ≤ n by omega)
  obtain ⟨i, rfl⟩ := Int.eq_ofNat_of_zero_le b2.1
  obtain ⟨g5, g6⟩ := g3 (by omega)
  have hl : liftM (m : Int) (n : Int) (i : Int) p prf = (p.take (dirsM ((overW (knownM m n prf) 0 n i).2.2 - (overW (knownM m n prf) 0 n i).2.1) (i - (overW (knownM m n prf) 0 n i).2.1)).length ++ (overW (knownM m n prf) 0 n i).1.reverse, true) := by
    rw [liftM, if_pos hok, if_neg hmn, Int.toNat_natCast, Int.toNat_natCast]
  refine ⟨by rw [hl], fun hno => ?_⟩
  have hcl : clashG ((m : Int), r) (((n : Int), s), prf) i x p = firstM (rowM (m : Int) i x p).1 (prowM 0 m i (prf.take (pcM (m : Int)).toNat)) := by
    unfold clashG
    rw [if_pos ⟨h, hg⟩, if_neg (by rw [hno]; decide)]; rfl
  rw [hcl]
  have hgl : prf.length = (nodesI m n).length := by
    rw [glM, if_pos g1, if_neg (by omega), Int.toNat_natCast, Int.toNat_natCast] at g2
    rw [nodesI, List.length_append]
    omega
  obtain ⟨hk, hk8⟩ := peaks_len (m := m) (by omega)
  have hkl : (peaksN 0 m).length ≤ prf.length := by
    rw [hgl, nodesI_map, List.length_map, List.length_append, fallO_peaks 0 n m (by omega) (by omega)]
    omega
  rw [hk, Int.toNat_natCast] at g5 ⊢
  simp only [Int.toNat_natCast] at b4 hr g6
  have hrow : (rowM (m : Int) (i : Int) x p).1 = downM (m - 0) (i - 0) x p := by rw [rowM, if_pos hb]; rfl
  rw [hrow]
  have key := peaks_clash x m i (by omega) (prf.take (peaksN 0 m).length) 0 p (Nat.zero_le _) (by rw [List.length_take]; omega) (by rw [List.length_take]; omega) b4 (by rw [g5]; exact hr)
  rcases key with key | ⟨k, X, d, e1, e2, e3, e4, e5, e6⟩
  · exact key
  exfalso
  have hcov : Cov (knownM (m : Int) (n : Int) prf) 0 n := cov_nodes (m := m) (n := n) (ds := prf) (by omega) (by omega)
  obtain ⟨d', f1, f2, f3, f4⟩ := over_end i x (n + 1) 0 n (by omega) hcov (Nat.zero_le _) (by omega)
  obtain ⟨Y, hY⟩ : ∃ Y, (overW (knownM (m : Int) (n : Int) prf) 0 n i).2 = Y := ⟨_, rfl⟩
  rw [hY] at f1 f2 f3 f4
  have hYin : Y ∈ peaksN 0 m := by
    have h1 := (List.of_mem_zip (findN_mem f1)).1
    rw [Int.toNat_natCast, Int.toNat_natCast, nodesI_map] at h1
    obtain ⟨Z, hZ, hZe⟩ := List.mem_map.1 h1
    have hZY : Z = Y := nodeI_inj hZe
    subst hZY
    rcases List.mem_append.1 hZ with hZ | hZ
    · rw [fallO_peaks 0 n m (by omega) (by omega)] at hZ; exact hZ
    · have := (fall_side 0 n m (by omega)).2 Z hZ; omega
  have hXY : X = Y := peak_uniq (i := i) (m + 1) 0 (by omega) X (List.mem_of_getElem? e1) Y hYin e3 e4 f2.2 f3.1
  subst hXY
  have hkl2 := (List.getElem?_eq_some_iff.1 e1).1
  have hnode : (nodesI m n)[k]? = some (nodeI X) := by
    rw [nodesI_map, List.getElem?_map, fallO_peaks 0 n m (by omega) (by omega), List.getElem?_append_left hkl2, e1]; rfl
  obtain ⟨y, z1, z2⟩ := zip_at (nodesI_nodup (by omega)) hgl hnode
  have hyd : y = d := by
    rw [List.getElem?_take, if_pos hkl2, z1] at e2
    exact Option.some.inj e2
  have hdd : d' = d := by
    have h1 : findN (knownM (m : Int) (n : Int) prf) ((X.1 : Int), (X.2 : Int)) = some y := z2
    rw [h1] at f1
    rw [← hyd]; exact (Option.some.inj f1).symm
  have hq : (p.take (dirsM (X.2 - X.1) (i - X.1)).length).length = (dirsM (X.2 - X.1) (i - X.1)).length := by rw [List.length_take]; omega
  obtain ⟨w1, w2⟩ := f4 _ hq
  have hroot := w2 (by
    rw [hq, hdd, ← e6]
    have h1 : p.take (dirsM (X.2 - X.1) (i - X.1)).length ++ p.drop (dirsM (X.2 - X.1) (i - X.1)).length = p := List.take_append_drop _ _
    have h2 := foldP_pre (bs := (dirsM (X.2 - X.1) (i - X.1)).reverse) (q := p.take (dirsM (X.2 - X.1) (i - X.1)).length) (r := p.drop (dirsM (X.2 - X.1) (i - X.1)).length) (d0 := leafH x) (k := (dirsM (X.2 - X.1) (i - X.1)).length) (by omega)
    rw [h1] at h2
    rw [h2])
  have hyes : pckM ((n : Int), s) i x (liftM (m : Int) (n : Int) i p prf).1 = true := by
    rw [hl, hY]
    obtain ⟨q1, q2⟩ := place_len (m := (n : Int)) (i := (i : Int)) (by omega) (by omega)
    refine pckM_iff.2 ⟨?_, ?_⟩
    · unfold pathB
      dsimp only
      rw [q1, q2, decide_eq_true (show (x.size : Int) ≤ 40 by omega), Int.toNat_natCast, Int.toNat_natCast, w1]
      simp
    · dsimp only
      rw [Int.toNat_natCast, Int.toNat_natCast, ← g6]
      exact hroot
  rw [hyes] at hno
  cases hno

abbrev MPck : FM := .f4 (CE.st cPoint) (eInt .i64) eStr (eList cDigest) eBool.enc pckM (fun _ _ _ _ => True)
attribute [go_sem] MPck

def H_spec_PathCheck : Hint := { fs := [(34, MRootP)], kp := [(0, [0, 1, 2, 3]), (1, [1, 2, 3, 4]), (2, [4, 9, 10])], an := [] }
attribute [go_sem] H_spec_PathCheck
theorem ok_H_spec_PathCheck : H_spec_PathCheck.ok Tryz.prog := AllOk.okR (.cons ok_spec_PathRoot .nil) .nil mix
theorem f_spec_PathCheck (p : Point) (i : Int) (x : ByteArray) (q : List Digest) : VFun Tryz.prog 11 [(CE.st cPoint).enc p, (eInt .i64).enc i, eStr.enc x, (eList cDigest).enc q] [] (eBool.enc (pckM p i x q)) [] := by
  refine VFun_pure (n := 27) (rs := [.tmp 8]) Tryz.func11 rfl rfl rfl rfl H_spec_PathCheck ok_H_spec_PathCheck _ _ (Nat.le_of_ble_eq_true rfl) (by kernel_rfl) ?_
  cases h : (rootP p.1 i x q).2 with
  | false =>
    rw [pckM, h, Bool.false_and]
    simp only [go_sem, ↓reduceIte, reduceCtorEq, Nat.reduceAdd, Nat.reduceMul, Nat.reduceEqDiff, Nat.reduceSub, Nat.reduceLT, Nat.reduceLeDiff, Nat.reduceAnd, Nat.reduceShiftRight, Nat.reduceBEq, Nat.reduceBNe, Nat.reduceBneDiff, Nat.reduceBeqDiff, Int.reduceToNat, Int.reduceLE, Int.reduceLT, Int.reduceEq, h]
  | true =>
    rw [pckM, h, Bool.true_and]
    simp only [go_sem, ↓reduceIte, reduceCtorEq, Nat.reduceAdd, Nat.reduceMul, Nat.reduceEqDiff, Nat.reduceSub, Nat.reduceLT, Nat.reduceLeDiff, Nat.reduceAnd, Nat.reduceShiftRight, Nat.reduceBEq, Nat.reduceBNe, Nat.reduceBneDiff, Nat.reduceBeqDiff, Int.reduceToNat, Int.reduceLE, Int.reduceLT, Int.reduceEq, h, digEq]
theorem ok_spec_PathCheck : MPck.ok Tryz.prog 11 := FM.f4_ok fun p i x q _ => f_spec_PathCheck p i x q

def H_impl_PathCheck : Hint := { fs := [(52, MRootP)], kp := [(0, [0, 1, 2, 3]), (1, [1, 2, 3, 4]), (2, [4, 9, 10])], an := [] }
attribute [go_sem] H_impl_PathCheck
theorem ok_H_impl_PathCheck : H_impl_PathCheck.ok Tryz.prog := AllOk.okR (.cons ok_impl_PathRoot .nil) .nil mix
theorem f_impl_PathCheck (p : Point) (i : Int) (x : ByteArray) (q : List Digest) : VFun Tryz.prog 23 [(CE.st cPoint).enc p, (eInt .i64).enc i, eStr.enc x, (eList cDigest).enc q] [] (eBool.enc (pckM p i x q)) [] := by
  refine VFun_pure (n := 27) (rs := [.tmp 8]) Tryz.func23 rfl rfl rfl rfl H_impl_PathCheck ok_H_impl_PathCheck _ _ (Nat.le_of_ble_eq_true rfl) (by kernel_rfl) ?_
  cases h : (rootP p.1 i x q).2 with
  | false =>
    rw [pckM, h, Bool.false_and]
    simp only [go_sem, ↓reduceIte, reduceCtorEq, Nat.reduceAdd, Nat.reduceMul, Nat.reduceEqDiff, Nat.reduceSub, Nat.reduceLT, Nat.reduceLeDiff, Nat.reduceAnd, Nat.reduceShiftRight, Nat.reduceBEq, Nat.reduceBNe, Nat.reduceBneDiff, Nat.reduceBeqDiff, Int.reduceToNat, Int.reduceLE, Int.reduceLT, Int.reduceEq, h]
  | true =>
    rw [pckM, h, Bool.true_and]
    simp only [go_sem, ↓reduceIte, reduceCtorEq, Nat.reduceAdd, Nat.reduceMul, Nat.reduceEqDiff, Nat.reduceSub, Nat.reduceLT, Nat.reduceLeDiff, Nat.reduceAnd, Nat.reduceShiftRight, Nat.reduceBEq, Nat.reduceBNe, Nat.reduceBneDiff, Nat.reduceBeqDiff, Int.reduceToNat, Int.reduceLE, Int.reduceLT, Int.reduceEq, h, digEq]
theorem ok_impl_PathCheck : MPck.ok Tryz.prog 23 := FM.f4_ok fun p i x q _ => f_impl_PathCheck p i x q

abbrev MPRow : FM := .f3 (eInt .i64) (eInt .i64) (eList cDigest) (eList cStr).enc (fun m i ds => prowM 0 m.toNat i.toNat ds) (fun m i ds => (1 ≤ m ∧ m ≤ 256) ∧ (0 ≤ i ∧ i < m) ∧ ds.length = (peaksN 0 m.toNat).length)
attribute [go_sem] MPRow
def H_impl_peaksRow : Hint := { fs := [(31, MPairT), (67, MPeaksR)], kp := [(0, [0, 1, 2]), (1, [0, 1, 2]), (2, [0, 1, 2, 7]), (3, [0, 1, 2, 7, 8]), (4, [0, 1, 2, 7, 8, 9]), (6, [0, 1, 2, 7, 8, 9]), (7, [0, 1, 2, 7, 8, 9]), (8, [0, 1, 2, 7, 8, 9, 10]), (9, [0, 1, 2, 7, 8, 9, 10, 11]), (10, [0, 1, 2, 7, 8, 9, 10, 11]), (11, [0, 1, 2, 7, 8, 9, 11]), (5, [0, 1, 2, 7, 8, 9]), (12, [7])], an := [(6, [0, 0, 0, 6, 14, 0, 0, 64, 224, 480, 1022, 2046, 4095, 8191])], nl := [(3, [(7, 1)])] }
attribute [go_sem] H_impl_peaksRow
theorem ok_H_impl_peaksRow : H_impl_peaksRow.ok Tryz.prog := AllOk.okR (.cons ok_impl_pairText (.cons ok_PeaksRoot .nil)) .nil mix
theorem f_peaksRow (m i : Nat) (ds : List Digest) (hm : 1 ≤ m ∧ m ≤ 256) (hi : i < m) (hd : ds.length = (peaksN 0 m).length) : VFun Tryz.prog 62 [(eInt .i64).enc m, (eInt .i64).enc i, (eList cDigest).enc ds] [] ((eList cStr).enc (prowM 0 m i ds)) [] := by
  have h8 := (peaks_len (m := m) hm.2).2
  obtain ⟨T, hT⟩ : ∃ T, prowM 0 m i ds = T := ⟨_, rfl⟩
  rw [hT]
  refine VFun_pure (n := 50) (rs := [.tmp 6]) Tryz.func62 rfl rfl rfl rfl H_impl_peaksRow ok_H_impl_peaksRow _ _ (Nat.le_of_ble_eq_true rfl) (by kernel_rfl) ?_
  simp only [go_sem, ↓reduceIte, reduceCtorEq, Nat.reduceAdd, Nat.reduceMul, Nat.reduceEqDiff, Nat.reduceSub, Nat.reduceLT, Nat.reduceLeDiff, Nat.reduceAnd, Nat.reduceShiftRight, Nat.reduceBEq, Nat.reduceBNe, Nat.reduceBneDiff, Nat.reduceBeqDiff, Int.reduceToNat, Int.reduceLE, Int.reduceLT, Int.reduceEq]
  refine LoopV.go (H := H_impl_peaksRow) ok_H_impl_peaksRow (by kernel_rfl) (fun y : Nat × Nat × List ByteArray => ⟨[(0, sc (.int .i64 m)), (1, sc (.int .i64 i)), (2, .x (.o (.c (.s (ds.map cDigest.enc))))), (7, .x (.o (.h (1, 100) 0 y.2.2.length y.2.2.length))), (8, sc (.int .i64 y.2.1)), (9, sc (.int .i64 y.1))], [((1, 100), .row 1 (y.2.2.map cStr.enc))], 2⟩) (fun y => ds.length - y.1) (fun y => (y.1 ≤ ds.length ∧ y.2.2.length ≤ y.1) ∧ ((y.2.1 ≤ i ∧ (ds.drop y.1).length = (peaksN y.2.1 m).length ∧ y.2.2 ++ prowM y.2.1 m i (ds.drop y.1) = T) ∨ (i < y.2.1 ∧ y.2.1 ≤ m ∧ y.2.2 = T))) ?_ (0, 0, []) ⟨⟨Nat.zero_le _, Nat.le_refl _⟩, .inl ⟨Nat.zero_le _, hd, hT⟩⟩
  rintro ⟨k, a, out⟩ ⟨⟨j1, j2⟩, j3⟩
  dsimp only at j1 j2 j3
  have w1 : IntKind.i64.wrap ((k : Int) + 1) = ((k + 1 : Nat) : Int) := by rw [wrap64] <;> omega
  rcases j3 with ⟨j3, j4, j5⟩ | ⟨j3, j4, j5⟩
  case inr =>
    subst j5
    have c2 : ((a : Int) ≤ (i : Int)) = False := eq_false (by omega)
    by_cases hlt : k + 1 < ds.length
    · have c1 : (((k + 1 : Nat) : Int) < (ds.length : Int)) = True := eq_true (by omega)
      simp only [go_sem, ↓reduceIte, reduceCtorEq, Nat.reduceAdd, Nat.reduceMul, Nat.reduceEqDiff, Nat.reduceSub, Nat.reduceLT, Nat.reduceLeDiff, Nat.reduceAnd, Nat.reduceShiftRight, Nat.reduceBEq, Nat.reduceBNe, Nat.reduceBneDiff, Nat.reduceBeqDiff, Int.reduceToNat, Int.reduceLE, Int.reduceLT, Int.reduceEq, w1, c1, c2]
    · have c1 : (((k + 1 : Nat) : Int) < (ds.length : Int)) = False := eq_false (by omega)
      simp only [go_sem, ↓reduceIte, reduceCtorEq, Nat.reduceAdd, Nat.reduceMul, Nat.reduceEqDiff, Nat.reduceSub, Nat.reduceLT, Nat.reduceLeDiff, Nat.reduceAnd, Nat.reduceShiftRight, Nat.reduceBEq, Nat.reduceBNe, Nat.reduceBneDiff, Nat.reduceBeqDiff, Int.reduceToNat, Int.reduceLE, Int.reduceLT, Int.reduceEq, w1, c1, c2]
  have c2 : ((a : Int) ≤ (i : Int)) = True := eq_true (by omega)
  obtain ⟨p1, p2⟩ := halfN_in (show a < m by omega)
  rw [List.length_drop, peaksN_go (by omega), List.length_cons] at j4
  by_cases hlt : k + 1 < ds.length
  case neg =>
    have c1 : (((k + 1 : Nat) : Int) < (ds.length : Int)) = False := eq_false (by omega)
    have he : prowM a m i (ds.drop k) = [] := by
      have h1 : (ds.drop k).length = 1 := by rw [List.length_drop]; omega
      match h2 : ds.drop k, h1 with
      | [d], _ => rfl
    rw [he, List.append_nil] at j5
    simp only [go_sem, ↓reduceIte, reduceCtorEq, Nat.reduceAdd, Nat.reduceMul, Nat.reduceEqDiff, Nat.reduceSub, Nat.reduceLT, Nat.reduceLeDiff, Nat.reduceAnd, Nat.reduceShiftRight, Nat.reduceBEq, Nat.reduceBNe, Nat.reduceBneDiff, Nat.reduceBeqDiff, Int.reduceToNat, Int.reduceLE, Int.reduceLT, Int.reduceEq, w1, c1, c2, j5]
  have c1 : (((k + 1 : Nat) : Int) < (ds.length : Int)) = True := eq_true (by omega)
  have hk : k < ds.length := by omega
  have hx := List.getElem?_eq_getElem hk
  have hdk : ds.drop k = ds[k]'hk :: ds.drop (k + 1) := List.drop_eq_getElem_cons hk
  obtain ⟨d, hdd⟩ : ∃ d, ds[k]'hk = d := ⟨_, rfl⟩
  rw [hdd] at hx hdk
  have hpr : prowM a m i (ds.drop k) = pairT d (peaksR (ds.drop (k + 1))) :: (if i < a + halfN (m - a) then [] else prowM (a + halfN (m - a)) m i (ds.drop (k + 1))) := by
    rw [hdk]
    have h1 : 1 ≤ (ds.drop (k + 1)).length := by rw [List.length_drop]; omega
    match h2 : ds.drop (k + 1), h1 with
    | e :: es, _ => rw [prowM]
  have ht : (ds.drop (k + 1)).take (ds.length - (k + 1)) = ds.drop (k + 1) := List.take_of_length_le (by rw [List.length_drop]; omega)
  have w2 : IntKind.i64.wrap ((m : Int) - (a : Int)) = ((m - a : Nat) : Int) := by rw [wrap64] <;> omega
  obtain ⟨t, htt⟩ : ∃ t, pairT d (peaksR (ds.drop (k + 1))) = t := ⟨_, rfl⟩
  rw [htt] at hpr
  simp only [go_sem, ↓reduceIte, reduceCtorEq, Nat.reduceAdd, Nat.reduceMul, Nat.reduceEqDiff, Nat.reduceSub, Nat.reduceLT, Nat.reduceLeDiff, Nat.reduceAnd, Nat.reduceShiftRight, Nat.reduceBEq, Nat.reduceBNe, Nat.reduceBneDiff, Nat.reduceBeqDiff, Int.reduceToNat, Int.reduceLE, Int.reduceLT, Int.reduceEq, w1, c1, c2, hx, eq_true hk, ht, w2, htt]
  refine ⟨⟨by omega, by omega⟩, by omega, ⟨by omega, by omega⟩, ?_⟩
  refine LoopV.go (H := H_impl_peaksRow) ok_H_impl_peaksRow (by kernel_rfl) (fun s : Nat => ⟨[(0, sc (.int .i64 m)), (1, sc (.int .i64 i)), (2, .x (.o (.c (.s (ds.map cDigest.enc))))), (7, .x (.o (.h (1, 100) 0 (out.length + 1) (out.length + 1)))), (8, sc (.int .i64 a)), (9, sc (.int .i64 k)), (10, sc (.int .i64 ((m - a : Nat) : Int))), (11, sc (.int .i64 s))], [((1, 100), .row 1 (out.map cStr.enc ++ [[.v (.string t)]]))], 2⟩) (fun s => m - s) (fun s => (∃ j, s = 2 ^ j) ∧ 1 ≤ s ∧ s ≤ m - a) ?_ 1 ⟨⟨0, rfl⟩, Nat.le_refl _, by omega⟩
  rintro s ⟨⟨j, hj⟩, s1, s2⟩
  have v1 : IntKind.i64.wrap (2 * (s : Int)) = ((2 * s : Nat) : Int) := by rw [wrap64] <;> omega
  have v2 : IntKind.i64.wrap ((s : Int) * 2) = ((2 * s : Nat) : Int) := by rw [wrap64] <;> omega
  by_cases hs : 2 * s ≤ m - a
  · have d1 : (((2 * s : Nat) : Int) ≤ ((m - a : Nat) : Int)) = True := eq_true (by omega)
    simp only [go_sem, ↓reduceIte, reduceCtorEq, Nat.reduceAdd, Nat.reduceMul, Nat.reduceEqDiff, Nat.reduceSub, Nat.reduceLT, Nat.reduceLeDiff, Nat.reduceAnd, Nat.reduceShiftRight, Nat.reduceBEq, Nat.reduceBNe, Nat.reduceBneDiff, Nat.reduceBeqDiff, Int.reduceToNat, Int.reduceLE, Int.reduceLT, Int.reduceEq, d1, v1, v2]
    exact ⟨2 * s, ⟨⟨j + 1, by rw [Nat.pow_succ]; omega⟩, by omega, hs⟩, by omega, rfl⟩
  · have d1 : (((2 * s : Nat) : Int) ≤ ((m - a : Nat) : Int)) = False := eq_false (by omega)
    have hh : halfN (m - a) = s := halfN_eq hj s2 (by omega)
    rw [hh] at hpr p2 j4
    have v3 : IntKind.i64.wrap ((a : Int) + (s : Int)) = ((a + s : Nat) : Int) := by rw [wrap64] <;> omega
    simp only [go_sem, ↓reduceIte, reduceCtorEq, Nat.reduceAdd, Nat.reduceMul, Nat.reduceEqDiff, Nat.reduceSub, Nat.reduceLT, Nat.reduceLeDiff, Nat.reduceAnd, Nat.reduceShiftRight, Nat.reduceBEq, Nat.reduceBNe, Nat.reduceBneDiff, Nat.reduceBeqDiff, Int.reduceToNat, Int.reduceLE, Int.reduceLT, Int.reduceEq, d1, v1, v2, v3, w1]
    refine ⟨(k + 1, a + s, out ++ [t]), ⟨⟨by dsimp only; omega, by simp; omega⟩, ?_⟩, by dsimp only; omega, by rw [List.length_append, List.map_append]; rfl⟩
    dsimp only
    rw [hpr] at j5
    by_cases hia : i < a + s
    · rw [if_pos hia] at j5
      exact .inr ⟨hia, p2, j5⟩
    · rw [if_neg hia] at j5
      exact .inl ⟨by omega, by omega, by rw [List.append_assoc, List.singleton_append]; exact j5⟩
theorem ok_impl_peaksRow : MPRow.ok Tryz.prog 62 := FM.f3_ok fun m i ds h => by
  obtain ⟨h1, h2, h3⟩ := h
  obtain ⟨m, rfl⟩ := Int.eq_ofNat_of_zero_le (show 0 ≤ m by omega)
  obtain ⟨i, rfl⟩ := Int.eq_ofNat_of_zero_le h2.1
  exact f_peaksRow m i ds (by omega) (by omega) h3

abbrev eLift : CE (List Digest × Bool) := eT2 (eList cDigest) eBool (one_x _ _) (one_x _ _)
attribute [go_sem] eLift
abbrev liftP (m n i : Int) (p prf : List Digest) : Prop := p.length ≤ 1000000 ∧ prf.length ≤ 1000000
abbrev MLift : FM := .f5 (eInt .i64) (eInt .i64) (eInt .i64) (eList cDigest) (eList cDigest) (fun m n i p prf => eLift.enc (liftM m n i p prf)) liftP
attribute [go_sem] MLift
theorem way_drop {lo hi i : Nat} {l : List (Int × Int)} {k : Nat} (h : l.drop k = wayM lo hi i) (h2 : 2 ≤ hi - lo) : l[k]? = some ((lo : Int), (hi : Int)) ∧ l.drop (k + 1) = if i < lo + splitN (hi - lo) then wayM lo (lo + splitN (hi - lo)) i else wayM (lo + splitN (hi - lo)) hi i := by
  have h1 : wayM lo hi i = ((lo : Int), (hi : Int)) :: (if i < lo + splitN (hi - lo) then wayM lo (lo + splitN (hi - lo)) i else wayM (lo + splitN (hi - lo)) hi i) := by rw [wayM, dif_pos h2]
  rw [h1] at h
  have h3 : l[k]? = (l.drop k)[0]? := by rw [List.getElem?_drop, Nat.add_zero]
  refine ⟨by rw [h3, h]; rfl, ?_⟩
  rw [← List.drop_drop, h]; rfl

theorem peaks_dirs {m i : Nat} (n : Nat) : ∀ (a : Nat), m - a < n → ∀ X ∈ peaksN a m, X.1 ≤ i → i < X.2 → (dirsM (X.2 - X.1) (i - X.1)).length ≤ (dirsM (m - a) (i - a)).length := by
  induction n with
  | zero => intro a h; omega
  | succ n ih =>
    intro a hn X hX h1 h2
    by_cases h : a < m
    · obtain ⟨k1, k2⟩ := halfN_in h
      rw [peaksN_go h] at hX
      rcases Nat.lt_or_ge (a + halfN (m - a)) m with hlt | hge
      · obtain ⟨g1, g2⟩ := half_split hlt
        rcases List.mem_cons.1 hX with rfl | hX
        · dsimp only at h1 h2 ⊢
          rw [dirsM_l g1 (by omega), g2, show a + halfN (m - a) - a = halfN (m - a) by omega, List.length_cons]
          omega
        · have h3 := ih _ (by omega) X hX h1 h2
          have h4 := peaksN_from _ _ X hX
          rw [dirsM_r g1 (by omega), g2, List.length_cons, show m - a - halfN (m - a) = m - (a + halfN (m - a)) by omega, show i - a - halfN (m - a) = i - (a + halfN (m - a)) by omega]
          omega
      · rw [peaksN_end hge] at hX
        rw [List.mem_singleton.1 hX]
        dsimp only
        rw [show a + halfN (m - a) = m by omega]
        exact Nat.le_refl _
    · rw [peaksN_end (by omega)] at hX; cases hX
theorem over_peak {m n i : Nat} {prf : List Digest} (h1 : 0 < m) (h2 : m < n) (h3 : i < m) (hl : (nodesI m n).length ≤ prf.length) : (overW ((nodesI m n).zip prf) 0 n i).2 ∈ peaksN 0 m ∧ (overW ((nodesI m n).zip prf) 0 n i).2.1 ≤ i ∧ i < (overW ((nodesI m n).zip prf) 0 n i).2.2 := by
  have hcov : Cov ((nodesI m n).zip prf) 0 n := cov_nodes (m := m) (n := n) (ds := prf) (by omega) hl
  obtain ⟨d', f1, f2, f3, -⟩ := over_end i ⟨#[]⟩ (n + 1) 0 n (by omega) hcov (Nat.zero_le _) (by omega)
  obtain ⟨Y, hY⟩ : ∃ Y, (overW ((nodesI m n).zip prf) 0 n i).2 = Y := ⟨_, rfl⟩
  rw [hY] at f1 f2 f3 ⊢
  refine ⟨?_, f2.2, f3.1⟩
  have h1' := (List.of_mem_zip (findN_mem f1)).1
  rw [nodesI_map] at h1'
  obtain ⟨Z, hZ, hZe⟩ := List.mem_map.1 h1'
  have hZY : Z = Y := nodeI_inj hZe
  subst hZY
  rcases List.mem_append.1 hZ with hZ | hZ
  · rw [fallO_peaks 0 n m (by omega) (by omega)] at hZ; exact hZ
  · have := (fall_side 0 n m (by omega)).2 Z hZ; omega

def H_impl_GrowthLift : Hint := { fs := [(53, MSizes), (54, MPlen), (55, MGLen), (56, ODigCopy), (57, FM.known), (58, MWay), (59, MHalves), (60, MDigBy)], kp := [(0, [0, 1, 2, 3, 4]), (1, [0, 1, 2, 3, 4]), (2, []), (3, [0, 1, 2, 3, 4]), (4, [3]), (5, [0, 1, 2, 3, 4]), (6, [1, 2, 3, 12]), (7, [1, 2, 3, 12, 13]), (8, [1, 2, 3, 12, 13, 14]), (9, [2, 3, 12, 13, 14, 15]), (11, [2, 3, 12, 13, 14, 15, 16]), (12, [2, 3, 12, 13, 14, 15, 16, 18]), (13, [2, 3, 12, 13, 14, 15, 16]), (14, [2, 3, 12, 13, 14, 15, 16, 19, 20]), (15, [2, 3, 12, 13, 14, 15, 16, 19, 20]), (16, [2, 3, 12, 13, 14, 15, 16, 20]), (17, [2, 3, 12, 13, 14, 15, 16, 19, 20]), (18, [2, 3, 12, 13, 14, 15, 16, 19]), (10, [2, 3, 12, 13, 14, 15, 16]), (19, [2, 3, 14, 15]), (20, [14, 21]), (21, [14, 21, 22]), (23, [14, 21, 22]), (22, [14, 21, 22]), (24, [21])], an := [], nl := [(9, [(14, 4)])] }
attribute [go_sem] H_impl_GrowthLift
theorem ok_H_impl_GrowthLift : H_impl_GrowthLift.ok Tryz.prog := AllOk.okR (.cons ok_impl_mayGrow (.cons ok_impl_PathLen (.cons ok_impl_GrowthLen (.cons ok_impl_copied_impl_Digest (.cons ok_impl_known (.cons ok_impl_way (.cons ok_impl_node_halves (.cons ok_impl_digestBy .nil)))))))) .nil mix
theorem f_GrowthLift (m n i : Int) (p prf : List Digest) (h : liftP m n i p prf) : VFun Tryz.prog 24 [(eInt .i64).enc m, (eInt .i64).enc n, (eInt .i64).enc i, (eList cDigest).enc p, (eList cDigest).enc prf] [] (eLift.enc (liftM m n i p prf)) [] := by
  obtain ⟨hp, hprf⟩ := h
  refine VFun_pure (n := 128) (rs := [.tmp 10, .tmp 11]) Tryz.func24 rfl rfl rfl rfl H_impl_GrowthLift ok_H_impl_GrowthLift _ _ (Nat.le_of_ble_eq_true rfl) (by kernel_rfl) ?_
  by_cases c1 : (0 ≤ m ∧ m ≤ n) ∧ n ≤ 256
  case neg =>
    rw [liftM, if_neg fun h => c1 h.1]
    simp only [go_sem, ↓reduceIte, reduceCtorEq, Nat.reduceAdd, Nat.reduceMul, Nat.reduceEqDiff, Nat.reduceSub, Nat.reduceLT, Nat.reduceLeDiff, Nat.reduceAnd, Nat.reduceShiftRight, Nat.reduceBEq, Nat.reduceBNe, Nat.reduceBneDiff, Nat.reduceBeqDiff, Int.reduceToNat, Int.reduceLE, Int.reduceLT, Int.reduceEq, c1]
  by_cases c2 : placeOk m i = true
  case neg =>
    have hl : plenM m i = -1 := if_neg c2
    rw [liftM, if_neg fun h => c2 h.2.1]
    simp only [go_sem, ↓reduceIte, reduceCtorEq, Nat.reduceAdd, Nat.reduceMul, Nat.reduceEqDiff, Nat.reduceSub, Nat.reduceLT, Nat.reduceLeDiff, Nat.reduceAnd, Nat.reduceShiftRight, Nat.reduceBEq, Nat.reduceBNe, Nat.reduceBneDiff, Nat.reduceBeqDiff, Int.reduceToNat, Int.reduceLE, Int.reduceLT, Int.reduceEq, c1, hl]
  obtain ⟨b1, b2⟩ := placeOk_iff c2
  have hl : plenM m i = ((dirsM m.toNat i.toNat).length : Int) := if_pos c2
  have hl0 : (plenM m i < 0) = False := eq_false (by omega)
  by_cases c3 : (p.length : Int) = plenM m i
  case neg =>
    rw [liftM, if_neg fun h => c3 h.2.2.1]
    simp only [go_sem, ↓reduceIte, reduceCtorEq, Nat.reduceAdd, Nat.reduceMul, Nat.reduceEqDiff, Nat.reduceSub, Nat.reduceLT, Nat.reduceLeDiff, Nat.reduceAnd, Nat.reduceShiftRight, Nat.reduceBEq, Nat.reduceBNe, Nat.reduceBneDiff, Nat.reduceBeqDiff, Int.reduceToNat, Int.reduceLE, Int.reduceLT, Int.reduceEq, c1, hl0, c3]
  by_cases c4 : (prf.length : Int) = glM m n
  case neg =>
    rw [liftM, if_neg fun h => c4 h.2.2.2]
    simp only [go_sem, ↓reduceIte, reduceCtorEq, Nat.reduceAdd, Nat.reduceMul, Nat.reduceEqDiff, Nat.reduceSub, Nat.reduceLT, Nat.reduceLeDiff, Nat.reduceAnd, Nat.reduceShiftRight, Nat.reduceBEq, Nat.reduceBNe, Nat.reduceBneDiff, Nat.reduceBeqDiff, Int.reduceToNat, Int.reduceLE, Int.reduceLT, Int.reduceEq, c1, hl0, c3, c4]
  have hok : ((0 ≤ m ∧ m ≤ n) ∧ n ≤ 256) ∧ placeOk m i = true ∧ (p.length : Int) = plenM m i ∧ (prf.length : Int) = glM m n := ⟨c1, c2, c3, c4⟩
  by_cases c5 : m = n
  · rw [liftM, if_pos hok, if_pos c5]
    simp only [go_sem, ↓reduceIte, reduceCtorEq, Nat.reduceAdd, Nat.reduceMul, Nat.reduceEqDiff, Nat.reduceSub, Nat.reduceLT, Nat.reduceLeDiff, Nat.reduceAnd, Nat.reduceShiftRight, Nat.reduceBEq, Nat.reduceBNe, Nat.reduceBneDiff, Nat.reduceBeqDiff, Int.reduceToNat, Int.reduceLE, Int.reduceLT, Int.reduceEq, c1, hl0, c3, c4, eq_true c5]
    omega
  obtain ⟨m, rfl⟩ := Int.eq_ofNat_of_zero_le (show 0 ≤ m by omega)
  obtain ⟨n, rfl⟩ := Int.eq_ofNat_of_zero_le (show 0 ≤ n by omega)
  obtain ⟨i, rfl⟩ := Int.eq_ofNat_of_zero_le b2.1
  have hgl : prf.length = (nodesI m n).length := by
    have h4 := c4
    rw [glM, if_pos c1, if_neg (by omega), Int.toNat_natCast, Int.toNat_natCast] at h4
    rw [nodesI, List.length_append]
    omega
  have hcov : Cov ((nodesI m n).zip prf) 0 n := cov_nodes (m := m) (n := n) (ds := prf) (by omega) (by omega)
  obtain ⟨o1, o2, o3⟩ := over_peak (prf := prf) (show 0 < m by omega) (show m < n by omega) (show i < m by omega) (by omega)
  have o4 := peaks_dirs (m + 1) 0 (by omega) _ o1 o2 o3
  obtain ⟨W, hW⟩ : ∃ W, overW ((nodesI m n).zip prf) 0 n i = W := ⟨_, rfl⟩
  have hlift : liftM (m : Int) (n : Int) (i : Int) p prf = (p.take (dirsM (W.2.2 - W.2.1) (i - W.2.1)).length ++ W.1.reverse, true) := by
    rw [← hW, liftM, if_pos hok, if_neg c5]; rfl
  rw [hlift]
  rw [hW] at o1 o2 o3 o4
  have hpk := peaksN_in 0 m _ o1
  have hcn : ((m : Int) = (n : Int)) = False := eq_false c5
  obtain ⟨M, hM⟩ : ∃ M, (nodesI m n).zip prf = M := ⟨_, rfl⟩
  rw [hM] at hW hcov
  rw [Int.toNat_natCast, Int.toNat_natCast] at hl
  simp only [go_sem, ↓reduceIte, reduceCtorEq, Nat.reduceAdd, Nat.reduceMul, Nat.reduceEqDiff, Nat.reduceSub, Nat.reduceLT, Nat.reduceLeDiff, Nat.reduceAnd, Nat.reduceShiftRight, Nat.reduceBEq, Nat.reduceBNe, Nat.reduceBneDiff, Nat.reduceBeqDiff, Int.reduceToNat, Int.reduceLE, Int.reduceLT, Int.reduceEq, c1, hl0, c3, c4, hcn, hM]
  refine ⟨⟨by omega, hgl⟩, by omega, ?_⟩
  refine LoopV.go (H := H_impl_GrowthLift) ok_H_impl_GrowthLift (by kernel_rfl) (fun y : Nat × Nat × List Digest × Nat => ⟨[(2, sc (.int .i64 i)), (3, .x (.o (.c (.s (p.map cDigest.enc))))), (12, .x (.o (.p (1, 100) 0 0 0))), (13, .x (.o (.c (.s ((wayM 0 n i).map cNode.enc))))), (14, .x (.o (.h (1, 101) 0 y.2.2.1.length y.2.2.1.length))), (15, .x (.o (.p (1, 102) 0 0 1))), (16, sc (.int .i64 y.2.2.2))], [((1, 100), .mp (nmV M)), ((1, 101), .row 4 (y.2.2.1.map cDigest.enc)), ((1, 102), .bx [[.c (.v (.int .i64 y.1)), .c (.v (.int .i64 y.2.1))]])], 2⟩) (fun y => y.2.1 - y.1) (fun y => ((y.1 ≤ i ∧ i < y.2.1) ∧ y.2.1 ≤ n ∧ y.2.2.2 + (y.2.1 - y.1) ≤ n ∧ y.2.2.1.length ≤ y.2.2.2) ∧ Cov M y.1 y.2.1 ∧ (y.2.2.1 ++ (overW M y.1 y.2.1 i).1 = W.1 ∧ (overW M y.1 y.2.1 i).2 = W.2) ∧ (wayM 0 n i).drop y.2.2.2 = wayM y.1 y.2.1 i) ?_ (0, n, [], 0) ⟨⟨⟨Nat.zero_le _, by dsimp only; omega⟩, Nat.le_refl _, by dsimp only; omega, Nat.le_refl _⟩, hcov, ⟨by dsimp only; rw [hW]; rfl, by dsimp only; rw [hW]⟩, rfl⟩
  rintro ⟨lo, hi, ov, k⟩ ⟨⟨⟨j1, j2⟩, j3, j4, j5⟩, j6, ⟨j7, j8⟩, j9⟩
  dsimp only at j1 j2 j3 j4 j5 j6 j7 j8 j9
  cases hf : findN M ((lo : Int), (hi : Int)) with
  | some d =>
    obtain ⟨ix, hix⟩ := mfind_at hf
    rw [overW_at hf] at j7 j8
    dsimp only at j7 j8
    rw [List.append_nil] at j7
    have hW2 : W.2.1 = lo ∧ W.2.2 = hi := by rw [← j8]; exact ⟨rfl, rfl⟩
    rw [hW2.1, hW2.2] at o4 ⊢
    rw [hW2.2] at hpk
    rw [← j7]
    have w1 : IntKind.i64.wrap ((hi : Int) - (lo : Int)) = ((hi - lo : Nat) : Int) := by rw [wrap64] <;> omega
    have w2 : IntKind.i64.wrap ((i : Int) - (lo : Int)) = ((i - lo : Nat) : Int) := by rw [wrap64] <;> omega
    have w3 : IntKind.i64.wrap ((ov.length : Int) - 1) = (ov.length : Int) - 1 := by rw [wrap64] <;> omega
    have hwl : (wayM 0 (hi - lo) (i - lo)).length = (dirsM (hi - lo) (i - lo)).length := plen_way (by omega)
    have hD : (dirsM (hi - lo) (i - lo)).length ≤ p.length := by rw [hl] at c3; rw [Nat.sub_zero, Nat.sub_zero] at o4; omega
    have hpl : p.length ≤ 256 := by have := dirsM_len m i; omega
    have hbl : (p.take (dirsM (hi - lo) (i - lo)).length).length = (dirsM (hi - lo) (i - lo)).length := by rw [List.length_take]; omega
    obtain ⟨base, hbase⟩ : ∃ base, p.take (dirsM (hi - lo) (i - lo)).length = base := ⟨_, rfl⟩
    rw [hbase] at hbl ⊢
    simp only [go_sem, ↓reduceIte, reduceCtorEq, Nat.reduceAdd, Nat.reduceMul, Nat.reduceEqDiff, Nat.reduceSub, Nat.reduceLT, Nat.reduceLeDiff, Nat.reduceAnd, Nat.reduceShiftRight, Nat.reduceBEq, Nat.reduceBNe, Nat.reduceBneDiff, Nat.reduceBeqDiff, Int.reduceToNat, Int.reduceLE, Int.reduceLT, Int.reduceEq, hix, w1, w2, w3, hwl, hbase]
    refine ⟨⟨by omega, by omega⟩, by omega, by omega, ?_⟩
    refine LoopV.go (H := H_impl_GrowthLift) ok_H_impl_GrowthLift (by kernel_rfl) (fun j : Nat => ⟨[(14, .x (.o (.h (1, 100) 0 ov.length ov.length))), (21, .x (.o (.h (1, 101) 0 (base ++ (ov.drop j).reverse).length (base ++ (ov.drop j).reverse).length))), (22, sc (.int .i64 ((j : Int) - 1)))], [((1, 100), .row 4 (ov.map cDigest.enc)), ((1, 101), .row 4 ((base ++ (ov.drop j).reverse).map cDigest.enc))], 2⟩) (fun j => j) (fun j => j ≤ ov.length) ?_ ov.length (Nat.le_refl _) (by rw [List.drop_length, List.reverse_nil, List.append_nil]; rfl)
    intro j hj
    have hbj : (base ++ (ov.drop j).reverse).length ≤ 1000 := by rw [List.length_append, List.length_reverse, List.length_drop]; omega
    by_cases hj0 : 1 ≤ j
    · have hjo : j - 1 < ov.length := by omega
      have hy := List.getElem?_eq_getElem hjo
      have hcat : base ++ (ov.drop (j - 1)).reverse = (base ++ (ov.drop j).reverse) ++ [ov[j - 1]'hjo] := by
        rw [List.drop_eq_getElem_cons hjo, show j - 1 + 1 = j by omega, List.reverse_cons, List.append_assoc]
      have e1 : (j : Int) - 1 = ((j - 1 : Nat) : Int) := by omega
      have w4 : IntKind.i64.wrap (((j - 1 : Nat) : Int) - 1) = ((j - 1 : Nat) : Int) - 1 := by rw [wrap64] <;> omega
      have e2 : (0 ≤ ((j - 1 : Nat) : Int)) = True := eq_true (by omega)
      obtain ⟨zs, hzs⟩ : ∃ zs, base ++ (ov.drop j).reverse = zs := ⟨_, rfl⟩
      rw [hzs] at hcat hbj ⊢
      have hlen : base.length + (ov.drop (j - 1)).reverse.length = zs.length + 1 := by
        have h := congrArg List.length hcat
        rw [List.length_append, List.length_append] at h
        exact h
      simp only [go_sem, ↓reduceIte, reduceCtorEq, Nat.reduceAdd, Nat.reduceMul, Nat.reduceEqDiff, Nat.reduceSub, Nat.reduceLT, Nat.reduceLeDiff, Nat.reduceAnd, Nat.reduceShiftRight, Nat.reduceBEq, Nat.reduceBNe, Nat.reduceBneDiff, Nat.reduceBeqDiff, Int.reduceToNat, Int.reduceLE, Int.reduceLT, Int.reduceEq, e1, e2, hy, eq_true hjo, w4]
      exact ⟨by omega, j - 1, by omega, by omega, by rw [hlen, hcat, List.map_append]; rfl⟩
    · obtain rfl : j = 0 := by omega
      have e1 : (0 : Int) - 1 = -1 := rfl
      rw [List.drop_zero] at hbj ⊢
      simp only [go_sem, ↓reduceIte, reduceCtorEq, Nat.reduceAdd, Nat.reduceMul, Nat.reduceEqDiff, Nat.reduceSub, Nat.reduceLT, Nat.reduceLeDiff, Nat.reduceAnd, Nat.reduceShiftRight, Nat.reduceBEq, Nat.reduceBNe, Nat.reduceBneDiff, Nat.reduceBeqDiff, Int.reduceToNat, Int.reduceLE, Int.reduceLT, Int.reduceEq, e1]
      rw [List.length_append] at hbj
      omega
  | none =>
    obtain ⟨g1, g2, g3⟩ := Cov_mid j6 hf
    obtain ⟨v1, v2⟩ := way_drop j9 g1
    have k1 := splitN_lt g1
    have k2 := splitN_pos (hi - lo)
    have hkl := (List.getElem?_eq_some_iff.1 v1).1
    have hs : splitM ((hi : Int) - (lo : Int)) = (splitN (hi - lo) : Nat) := by
      rw [show (hi : Int) - (lo : Int) = ((hi - lo : Nat) : Int) by omega]
      exact splitM_in (by omega) (by omega)
    have hh : halvesM ((lo : Int), (hi : Int)) = (((lo : Int), ((lo + splitN (hi - lo) : Nat) : Int)), (((lo + splitN (hi - lo) : Nat) : Int), (hi : Int))) := by
      unfold halvesM
      dsimp only
      rw [hs]; rfl
    have w1 : IntKind.i64.wrap ((k : Int) + 1) = ((k + 1 : Nat) : Int) := by rw [wrap64] <;> omega
    by_cases hi' : i < lo + splitN (hi - lo)
    · have d1 : ((i : Int) < ((lo + splitN (hi - lo) : Nat) : Int)) = True := eq_true (by omega)
      rw [overW_l hf g1 hi'] at j7 j8
      rw [if_pos hi'] at v2
      simp only [go_sem, ↓reduceIte, reduceCtorEq, Nat.reduceAdd, Nat.reduceMul, Nat.reduceEqDiff, Nat.reduceSub, Nat.reduceLT, Nat.reduceLeDiff, Nat.reduceAnd, Nat.reduceShiftRight, Nat.reduceBEq, Nat.reduceBNe, Nat.reduceBneDiff, Nat.reduceBeqDiff, Int.reduceToNat, Int.reduceLE, Int.reduceLT, Int.reduceEq, mfind_no hf, v1, hh, eq_true hkl, d1, w1]
      exact ⟨⟨by omega, by omega⟩, ⟨by omega, ⟨by omega, by omega⟩, g3⟩, ⟨by omega, by omega⟩, (lo, lo + splitN (hi - lo), ov ++ [digW M (lo + splitN (hi - lo)) hi], k + 1), ⟨⟨⟨j1, hi'⟩, by dsimp only; omega, by dsimp only; omega, by simp; omega⟩, g2, ⟨by rw [List.append_assoc, List.singleton_append]; exact j7, j8⟩, v2⟩, by dsimp only; omega, by rw [List.length_append, List.map_append]; rfl⟩
    · have d1 : ((i : Int) < ((lo + splitN (hi - lo) : Nat) : Int)) = False := eq_false (by omega)
      rw [overW_r hf g1 hi'] at j7 j8
      rw [if_neg hi'] at v2
      simp only [go_sem, ↓reduceIte, reduceCtorEq, Nat.reduceAdd, Nat.reduceMul, Nat.reduceEqDiff, Nat.reduceSub, Nat.reduceLT, Nat.reduceLeDiff, Nat.reduceAnd, Nat.reduceShiftRight, Nat.reduceBEq, Nat.reduceBNe, Nat.reduceBneDiff, Nat.reduceBeqDiff, Int.reduceToNat, Int.reduceLE, Int.reduceLT, Int.reduceEq, mfind_no hf, v1, hh, eq_true hkl, d1, w1]
      exact ⟨⟨by omega, by omega⟩, ⟨by omega, ⟨by omega, by omega⟩, g2⟩, ⟨by omega, by omega⟩, (lo + splitN (hi - lo), hi, ov ++ [digW M lo (lo + splitN (hi - lo))], k + 1), ⟨⟨⟨by dsimp only; omega, j2⟩, j3, by dsimp only; omega, by simp; omega⟩, g3, ⟨by rw [List.append_assoc, List.singleton_append]; exact j7, j8⟩, v2⟩, by dsimp only; omega, by rw [List.length_append, List.map_append]; rfl⟩
theorem ok_impl_GrowthLift : MLift.ok Tryz.prog 24 := FM.f5_ok fun m n i p prf h => f_GrowthLift m n i p prf h

abbrev MClashG : FM := .f5 (CE.st cPoint) (CE.st cGrowth) (eInt .i64) eStr (eList cDigest) (fun o g i x p => eFirst.enc (clashG o g i x p)) (fun _ g _ _ p => p.length ≤ 1000000 ∧ g.2.length ≤ 1000000)
attribute [go_sem] MClashG
def H_impl_ClashOfGrowth : Hint := { fs := [(8, MRow), (23, MPck), (24, MLift), (28, MGrc), (61, MFirst), (62, MPRow), (63, MPeaksC)], kp := [(0, [0, 1, 2, 3, 4]), (1, [2, 3, 4, 5, 6, 10]), (2, [10]), (3, [2, 3, 4, 5, 6, 10]), (4, [2, 3, 4, 5, 6, 10, 12, 13]), (5, [10]), (6, [2, 3, 4, 5, 6, 10]), (7, [2, 5, 6, 10, 14])], an := [(7, [0, 0, 2, 0, 0, 16, 0, 64, 192, 496, 1022, 2047, 4095, 4095, 16383, 32767])] }
attribute [go_sem] H_impl_ClashOfGrowth
theorem ok_H_impl_ClashOfGrowth : H_impl_ClashOfGrowth.ok Tryz.prog := AllOk.okR (.cons ok_impl_ClashRow (.cons ok_impl_PathCheck (.cons ok_impl_GrowthLift (.cons ok_impl_GrowthCheck (.cons ok_impl_ClashFirst (.cons ok_impl_peaksRow (.cons ok_impl_PeaksCount .nil))))))) .nil mix
theorem f_impl_ClashOfGrowth (o : Point) (g : Growth) (i : Int) (x : ByteArray) (p : List Digest) (hp : p.length ≤ 1000000) (hg : g.2.length ≤ 1000000) : VFun Tryz.prog 25 [(CE.st cPoint).enc o, (CE.st cGrowth).enc g, (eInt .i64).enc i, eStr.enc x, (eList cDigest).enc p] [] (eFirst.enc (clashG o g i x p)) [] := by
  refine VFun_pure (n := 79) (rs := [.cell 10 33, .tmp 11]) Tryz.func25 rfl rfl rfl rfl H_impl_ClashOfGrowth ok_H_impl_ClashOfGrowth _ _ (Nat.le_of_ble_eq_true rfl) (by kernel_rfl) ?_
  by_cases h1 : pckM o i x p = true
  case neg =>
    have h1' : pckM o i x p = false := by simpa using h1
    rw [clashG, if_neg fun h => h1 h.1]
    simp only [go_sem, ↓reduceIte, reduceCtorEq, Nat.reduceAdd, Nat.reduceMul, Nat.reduceEqDiff, Nat.reduceSub, Nat.reduceLT, Nat.reduceLeDiff, Nat.reduceAnd, Nat.reduceShiftRight, Nat.reduceBEq, Nat.reduceBNe, Nat.reduceBneDiff, Nat.reduceBeqDiff, Int.reduceToNat, Int.reduceLE, Int.reduceLT, Int.reduceEq, h1']
  by_cases h2 : grcM o g.1 g.2 = 0
  case neg =>
    rw [clashG, if_neg fun h => h2 h.2]
    simp only [go_sem, ↓reduceIte, reduceCtorEq, Nat.reduceAdd, Nat.reduceMul, Nat.reduceEqDiff, Nat.reduceSub, Nat.reduceLT, Nat.reduceLeDiff, Nat.reduceAnd, Nat.reduceShiftRight, Nat.reduceBEq, Nat.reduceBNe, Nat.reduceBneDiff, Nat.reduceBeqDiff, Int.reduceToNat, Int.reduceLE, Int.reduceLT, Int.reduceEq, h1, h2]
    omega
  have hl := (growth_clash h1 h2).1
  by_cases h3 : pckM g.1 i x (liftM o.1 g.1.1 i p g.2).1 = true
  · rw [clashG, if_pos ⟨h1, h2⟩, if_pos h3]
    simp only [go_sem, ↓reduceIte, reduceCtorEq, Nat.reduceAdd, Nat.reduceMul, Nat.reduceEqDiff, Nat.reduceSub, Nat.reduceLT, Nat.reduceLeDiff, Nat.reduceAnd, Nat.reduceShiftRight, Nat.reduceBEq, Nat.reduceBNe, Nat.reduceBneDiff, Nat.reduceBeqDiff, Int.reduceToNat, Int.reduceLE, Int.reduceLT, Int.reduceEq, h1, h2, hl, h3]
    exact ⟨by omega, hp, hg⟩
  have h3' : pckM g.1 i x (liftM o.1 g.1.1 i p g.2).1 = false := by simpa using h3
  obtain ⟨hb, hr⟩ := pckM_iff.1 h1
  obtain ⟨b1, b2, b3, b4⟩ := pathB_iff hb
  obtain ⟨g1, g2, g3, g4⟩ := grc_0 h2
  have hmn : ¬ o.1 = g.1.1 := fun he => by
    obtain ⟨p1, p2⟩ := place_len b1 b2
    have hL : liftM o.1 g.1.1 i p g.2 = (p, true) := by rw [liftM, if_pos ⟨g1, p1, by rw [p2, b4], g2⟩, if_pos he]
    rw [hL] at h3
    have hpt : g.1 = o := Prod.ext he.symm (g4 he).symm
    rw [hpt] at h3
    exact h3 h1
  obtain ⟨hk, hk8⟩ := peaks_len (m := o.1.toNat) (by omega)
  rw [Int.toNat_of_nonneg (by omega)] at hk
  have hgl : g.2.length = (nodesI o.1.toNat g.1.1.toNat).length := by
    rw [glM, if_pos g1, if_neg (by omega)] at g2
    rw [nodesI, List.length_append]
    omega
  have hkl : (peaksN 0 o.1.toNat).length ≤ g.2.length := by
    rw [hgl, nodesI_map, List.length_map, List.length_append, fallO_peaks 0 g.1.1.toNat o.1.toNat (by omega) (by omega)]
    omega
  have hrl := rowM_len o.1 i x p
  rw [clashG, if_pos ⟨h1, h2⟩, if_neg h3, hk, Int.toNat_natCast]
  simp only [go_sem, ↓reduceIte, reduceCtorEq, Nat.reduceAdd, Nat.reduceMul, Nat.reduceEqDiff, Nat.reduceSub, Nat.reduceLT, Nat.reduceLeDiff, Nat.reduceAnd, Nat.reduceShiftRight, Nat.reduceBEq, Nat.reduceBNe, Nat.reduceBneDiff, Nat.reduceBeqDiff, Int.reduceToNat, Int.reduceLE, Int.reduceLT, Int.reduceEq, h1, h2, hl, h3', hk]
  exact ⟨by omega, ⟨hp, hg⟩, hkl, ⟨b1, ⟨by omega, by omega⟩, by rw [List.length_take]; omega⟩, by omega⟩
theorem ok_impl_ClashOfGrowth : MClashG.ok Tryz.prog 25 := FM.f5_ok fun o g i x p h => f_impl_ClashOfGrowth o g i x p h.1 h.2

abbrev FR.q2 {A B R : Type} (a : CE A) (b : CE B) (r : R → E) (pre : A → B → Prop) (post : A → B → R → Prop) : FR where
  md := []
  m args rin := match args, rin with
    | [e1, e2], [] => match a.dec e1, b.dec e2 with
      | some x, some y => some (pre x y, fun k => ∀ v, post x y v → k (r v) [])
      | _, _ => none
    | _, _ => none
theorem FR.q2_ok {P : Program} {g : FuncId} {A B R : Type} {a : CE A} {b : CE B} {r : R → E} {pre : A → B → Prop} {post : A → B → R → Prop} (h : ∀ x y, pre x y → ∃ v, post x y v ∧ VFun P g [a.enc x, b.enc y] [] (r v) []) : (FR.q2 a b r pre post).ok P g := by
  intro args rin pr W hm hp k hk
  simp only [FR.q2] at hm
  split at hm
  · split at hm
    · rename_i hx hy
      cases hm
      obtain ⟨v, h1, h2⟩ := h _ _ hp
      exact ⟨_, _, h2.weaken (.cons (a.ok _ _ hx) (.cons (b.ok _ _ hy) .nil)), hk _ h1⟩
    · cases hm
  · cases hm

abbrev Shift := Digest × Digest × Bool
abbrev shiftE (t : Shift) : E := .t [.a [.c (.v (.int .u64 t.1.1.toNat)), .c (.v (.int .u64 t.1.2.1.toNat)), .c (.v (.int .u64 t.1.2.2.1.toNat)), .c (.v (.int .u64 t.1.2.2.2.toNat))], .a [.c (.v (.int .u64 t.2.1.1.toNat)), .c (.v (.int .u64 t.2.1.2.1.toNat)), .c (.v (.int .u64 t.2.1.2.2.1.toNat)), .c (.v (.int .u64 t.2.1.2.2.2.toNat))], .o (.c (.v (.bool t.2.2)))]
attribute [go_sem] shiftE
def H_spec_l4Shifted : Hint := { fs := [(91, MHashBytes), (92, MBack)], kp := [(0, [0, 1]), (1, [2, 3, 4, 5]), (2, [2, 3, 4, 5, 7]), (3, [2, 3, 4, 5, 7, 8]), (5, [2, 3, 4, 5, 7, 8]), (6, [4, 5, 7, 8]), (7, [4, 5, 9]), (8, [4, 5, 9, 10]), (9, [4, 5, 10, 12]), (4, [2, 3, 4, 5, 7, 8]), (10, [2, 3, 4, 5])], an := [(1, [0, 1, 0, 7, 15, 31]), (6, [0, 1, 0, 0, 12, 31, 0, 0, 128, 448, 1023, 2047]), (9, [0, 0, 1, 7, 15]), (10, [0, 0, 1, 7, 15])], cut := [2] }
attribute [go_sem] H_spec_l4Shifted
theorem ok_H_spec_l4Shifted : H_spec_l4Shifted.ok Tryz.prog := AllOk.okR (.cons ok_spec_HashBytes (.cons ok_spec_HashBack .nil)) .nil mix
theorem f_l4Shifted (a b : Digest) : ∃ t : Shift, True ∧ VFun Tryz.prog 48 [(CE.st cDigest).enc a, (CE.st cDigest).enc b] [] (shiftE t) [] := by
  refine VFun_relE (n := 56) (rs := [.cell 4 25, .cell 5 25, .tmp 6]) Tryz.func48 rfl rfl rfl rfl H_spec_l4Shifted ok_H_spec_l4Shifted  (rin := []) (T := Shift) (fun t => shiftE t) (fun t => []) (fun _ => True) (Nat.le_of_ble_eq_true rfl) (by kernel_rfl) ?_
  simp only [go_sem, ↓reduceIte, reduceCtorEq, Nat.reduceAdd, Nat.reduceMul, Nat.reduceEqDiff, Nat.reduceSub, Nat.reduceLT, Nat.reduceLeDiff, Nat.reduceAnd, Nat.reduceShiftRight, Nat.reduceBEq, Nat.reduceBNe, Nat.reduceBneDiff, Nat.reduceBeqDiff, Int.reduceToNat, Int.reduceLE, Int.reduceLT, Int.reduceEq]
  refine CutS.intro (H := H_spec_l4Shifted) ok_H_spec_l4Shifted (by kernel_rfl) (by kernel_rfl) (fun S : ByteArray => ⟨[(2, .x (.o (.p (1, 100) 0 0 1))), (3, .x (.o (.p (1, 101) 0 0 1))), (4, .x (.o (.p (1, 102) 0 0 1))), (5, .x (.o (.p (1, 103) 0 0 1))), (7, sc (.string S))], [((1, 100), bxDg a), ((1, 101), bxDg b), ((1, 102), bxDg (0, 0, 0, 0)), ((1, 103), bxDg (0, 0, 0, 0))], 2⟩) (fun S => S.size = 64) ?_ ?_
  · simp only [go_sem, ↓reduceIte, reduceCtorEq, Nat.reduceAdd, Nat.reduceMul, Nat.reduceEqDiff, Nat.reduceSub, Nat.reduceLT, Nat.reduceLeDiff, Nat.reduceAnd, Nat.reduceShiftRight, Nat.reduceBEq, Nat.reduceBNe, Nat.reduceBneDiff, Nat.reduceBeqDiff, Int.reduceToNat, Int.reduceLE, Int.reduceLT, Int.reduceEq]
    exact ⟨show (64 : Nat) ≤ 9223372036854775807 by decide, ⟨(be8 a.1 ++ be8 a.2.1 ++ be8 a.2.2.1 ++ be8 a.2.2.2 ++ (be8 b.1 ++ be8 b.2.1 ++ be8 b.2.2.1 ++ be8 b.2.2.2)).toArray⟩, rfl, rfl⟩
  intro S hsz
  simp only [go_sem, ↓reduceIte, reduceCtorEq, Nat.reduceAdd, Nat.reduceMul, Nat.reduceEqDiff, Nat.reduceSub, Nat.reduceLT, Nat.reduceLeDiff, Nat.reduceAnd, Nat.reduceShiftRight, Nat.reduceBEq, Nat.reduceBNe, Nat.reduceBneDiff, Nat.reduceBeqDiff, Int.reduceToNat, Int.reduceLE, Int.reduceLT, Int.reduceEq]
  refine LoopV.go (H := H_spec_l4Shifted) ok_H_spec_l4Shifted (by kernel_rfl) (fun k : Nat => ⟨[(2, .x (.o (.p (1, 100) 0 0 1))), (3, .x (.o (.p (1, 101) 0 0 1))), (4, .x (.o (.p (1, 102) 0 0 1))), (5, .x (.o (.p (1, 103) 0 0 1))), (7, sc (.string S)), (8, sc (.int .i64 k))], [((1, 100), bxDg a), ((1, 101), bxDg b), ((1, 102), bxDg (0, 0, 0, 0)), ((1, 103), bxDg (0, 0, 0, 0))], 2⟩) (fun k => 64 - k) (fun k => k ≤ 64) ?_ 0 (Nat.zero_le _)
  intro k hk
  have v2 : IntKind.i64.wrap ((k : Int) + 1) = ((k + 1 : Nat) : Int) := by rw [wrap64] <;> omega
  by_cases hkl : k < 64
  case neg =>
    have d1 : ((k : Int) < ((64 : Nat) : Int)) = False := eq_false (by omega)
    simp only [go_sem, ↓reduceIte, reduceCtorEq, Nat.reduceAdd, Nat.reduceMul, Nat.reduceEqDiff, Nat.reduceSub, Nat.reduceLT, Nat.reduceLeDiff, Nat.reduceAnd, Nat.reduceShiftRight, Nat.reduceBEq, Nat.reduceBNe, Nat.reduceBneDiff, Nat.reduceBeqDiff, Int.reduceToNat, Int.reduceLE, Int.reduceLT, Int.reduceEq, hsz, d1]
    exact ⟨(a, b, false), rfl⟩
  have d1 : ((k : Int) < ((64 : Nat) : Int)) = True := eq_true (by omega)
  have hl64 : S.data.toList.length = 64 := hsz
  have hy0 : ∃ r, S.data.toList[k]? = some r := ba_at (by omega)
  obtain ⟨y, hy⟩ := hy0
  by_cases hy2 : (y.toNat : Int) = 255
  · have e1 : (S.extract 0 k).size = k := by rw [ByteArray.size_extract]; omega
    have e2 : (S.extract (k + 1) 64).size = 63 - k := by rw [ByteArray.size_extract]; omega
    have e4 : 1 + (S.extract 0 k).size + (S.extract (k + 1) 64).size = 64 := by omega
    simp only [go_sem, ↓reduceIte, reduceCtorEq, Nat.reduceAdd, Nat.reduceMul, Nat.reduceEqDiff, Nat.reduceSub, Nat.reduceLT, Nat.reduceLeDiff, Nat.reduceAnd, Nat.reduceShiftRight, Nat.reduceBEq, Nat.reduceBNe, Nat.reduceBneDiff, Nat.reduceBeqDiff, Int.reduceToNat, Int.reduceLE, Int.reduceLT, Int.reduceEq, hsz, d1, hy, hy2, v2, e4]
    obtain ⟨T, hT⟩ : ∃ T, (⟨#[UInt8.ofNat 255]⟩ : ByteArray) ++ S.extract 0 k ++ S.extract (k + 1) 64 = T := ⟨_, rfl⟩
    have e3 : T.size = 64 := by rw [← hT, ByteArray.size_append, ByteArray.size_append]; exact e4
    rw [hT]
    have t1 : (T.extract 0 32).size ≤ 64 := by rw [ByteArray.size_extract]; omega
    have t2 : (T.extract 32 64).size ≤ 64 := by rw [ByteArray.size_extract]; omega
    (repeat' apply And.intro) <;> first | omega | exact ⟨(_, _, true), rfl⟩ | skip
  · simp only [go_sem, ↓reduceIte, reduceCtorEq, Nat.reduceAdd, Nat.reduceMul, Nat.reduceEqDiff, Nat.reduceSub, Nat.reduceLT, Nat.reduceLeDiff, Nat.reduceAnd, Nat.reduceShiftRight, Nat.reduceBEq, Nat.reduceBNe, Nat.reduceBneDiff, Nat.reduceBeqDiff, Int.reduceToNat, Int.reduceLE, Int.reduceLT, Int.reduceEq, hsz, d1, hy, hy2, v2]
    exact ⟨k + 1, by omega, by omega, rfl⟩
abbrev RShift : FR := .q2 (CE.st cDigest) (CE.st cDigest) shiftE (fun _ _ => True) (fun _ _ _ => True)
attribute [go_sem] RShift
theorem ok_spec_l4Shifted : RShift.ok Tryz.prog 48 := FR.q2_ok fun a b _ => f_l4Shifted a b

namespace PO
abbrev OProof : FM := .g2 (eList cStr) (eInt .i64) (fun l m => (oL 0 (growM l m).1, [some (oR cDigest (growM l m).1)])) (fun l _ => l.length ≤ 1048576)
attribute [go_sem] OProof
def H_spec_l3Proof : Hint := { fs := [(88, OGrow)], kp := [(0, [0, 1]), (1, [0, 1]), (2, [5])], an := [], own := true }
attribute [go_sem] H_spec_l3Proof
theorem ok_H_spec_l3Proof : H_spec_l3Proof.ok Tryz.prog := AllOk.okR (.cons ok_spec_GrowthOf .nil) .nil mix
theorem o_l3Proof (l : List ByteArray) (m : Int) (h : l.length ≤ 1048576) : VFun Tryz.prog 42 [(eList cStr).enc l, (eInt .i64).enc m] [] (oL 0 (growM l m).1) [some (oR cDigest (growM l m).1)] := by
  refine VFun_own (rin := []) (n := 14) (rs := [.tmp 4]) Tryz.func42 rfl rfl rfl rfl H_spec_l3Proof ok_H_spec_l3Proof (Nat.le_of_ble_eq_true rfl) (by kernel_rfl) ?_
  simp only [go_sem, ↓reduceIte, reduceCtorEq, Nat.reduceAdd, Nat.reduceMul, Nat.reduceEqDiff, Nat.reduceSub, Nat.reduceLT, Nat.reduceLeDiff, Nat.reduceAnd, Nat.reduceShiftRight, Nat.reduceBEq, Nat.reduceBNe, Nat.reduceBneDiff, Nat.reduceBeqDiff, Int.reduceToNat, Int.reduceLE, Int.reduceLT, Int.reduceEq]
  exact h
theorem ok_l3ProofO : OProof.ok Tryz.prog 42 := FM.g2_ok fun l m h => o_l3Proof l m h
end PO

theorem leavesOk_of {l : List ByteArray} (h1 : l.length ≤ 256) (h2 : ∀ x ∈ l, x.size ≤ 40) : leavesOk l = true := by
  rw [leavesOk_good fun i x _ hx => by have := h2 x (List.mem_of_getElem? hx); omega]
  exact decide_eq_true (by omega)
abbrev bxGr (g : Growth) (ρ : Nm) : Root := .bx [[.c (.v (.int .i64 g.1.1)), .c (.v (.int .u64 g.1.2.1.toNat)), .c (.v (.int .u64 g.1.2.2.1.toNat)), .c (.v (.int .u64 g.1.2.2.2.1.toNat)), .c (.v (.int .u64 g.1.2.2.2.2.toNat)), .h ρ 0 g.2.length g.2.length]]
abbrev grE (g : Growth) : A := .a [.c (.v (.int .i64 g.1.1)), .c (.v (.int .u64 g.1.2.1.toNat)), .c (.v (.int .u64 g.1.2.2.1.toNat)), .c (.v (.int .u64 g.1.2.2.2.1.toNat)), .c (.v (.int .u64 g.1.2.2.2.2.toNat)), .c (.s (g.2.map cDigest.enc))]
abbrev zGr : Root := .bx [[.c (.v (.int .i64 0)), .c (.v (.int .u64 0)), .c (.v (.int .u64 0)), .c (.v (.int .u64 0)), .c (.v (.int .u64 0)), .c (.v (.slice none 0 0))]]
attribute [go_sem] bxGr grE zGr
def H_spec_l4Twisted : Hint := { fs := [(41, MTreePoint), (42, PO.OProof), (47, MPeaksC), (49, MNode)], kp := [(0, [0, 1]), (1, [0, 1, 4]), (2, [0, 1, 4, 5]), (3, [0, 1, 4, 5, 6]), (4, [4, 5]), (5, [0, 1, 4, 5, 6]), (6, [0, 1, 4, 5, 6, 7, 8, 9]), (7, [4, 5]), (8, [0, 1, 4, 5, 6, 7, 8]), (9, [0, 1, 4, 5, 6, 8]), (10, [0, 1, 4, 5]), (11, [4, 5])], an := [(5, [0, 1, 0, 4, 15, 31, 0, 64, 0, 256, 960, 1984, 4095, 8191, 16383, 16383, 16383, 0, 0, 425983, 983039, 2097151])], rs := [(48, RShift)], cut := [5, 8] }
attribute [go_sem] H_spec_l4Twisted
theorem ok_H_spec_l4Twisted : H_spec_l4Twisted.ok Tryz.prog := AllOk.okR (.cons ok_spec_TreePoint (.cons PO.ok_l3ProofO (.cons ok_spec_PeaksCount (.cons ok_spec_l3Node .nil)))) (.cons ok_spec_l4Shifted .nil) mix
theorem f_l4Twisted (l : List ByteArray) (m : Int) (h1 : 1 ≤ l.length ∧ l.length ≤ 256) (h2 : ∀ x ∈ l, x.size ≤ 40) (h3 : 1 ≤ m ∧ m ≤ l.length) : ∃ g : Growth, g.2.length ≤ 1000 ∧ VFun Tryz.prog 21 [(eList cStr).enc l, (eInt .i64).enc m] [] (.x (grE g)) [] := by
  obtain ⟨m, rfl⟩ := Int.eq_ofNat_of_zero_le (show 0 ≤ m by omega)
  have hk := leavesOk_of h1.2 h2
  obtain ⟨pr, hpr⟩ : ∃ pr, (growM l (m : Int)).1 = pr := ⟨_, rfl⟩
  have hle : pr.length ≤ 256 := by have := growM_le l m; rw [hpr] at this; omega
  obtain ⟨pk, pk8⟩ := peaks_len (m := m) (by omega)
  obtain ⟨c, hc⟩ : ∃ c, (peaksN 0 m).length = c := ⟨_, rfl⟩
  rw [hc] at pk pk8
  refine VFun_relE (n := 70) (rs := [.cell 4 65]) Tryz.func21 rfl rfl rfl rfl H_spec_l4Twisted ok_H_spec_l4Twisted  (rin := []) (T := Growth) (fun g => .x (grE g)) (fun g => []) (fun g => g.2.length ≤ 1000) (Nat.le_of_ble_eq_true rfl) (by kernel_rfl) ?_
  simp only [go_sem, ↓reduceIte, reduceCtorEq, Nat.reduceAdd, Nat.reduceMul, Nat.reduceEqDiff, Nat.reduceSub, Nat.reduceLT, Nat.reduceLeDiff, Nat.reduceAnd, Nat.reduceShiftRight, Nat.reduceBEq, Nat.reduceBNe, Nat.reduceBneDiff, Nat.reduceBeqDiff, Int.reduceToNat, Int.reduceLE, Int.reduceLT, Int.reduceEq, hpr, pk]
  refine ⟨by omega, by omega, ?_⟩
  refine CutS.intro (H := H_spec_l4Twisted) ok_H_spec_l4Twisted (by kernel_rfl) (by kernel_rfl) (fun _ : Unit => ⟨[(0, .x (.o (.c (.s (l.map cStr.enc))))), (1, sc (.int .i64 m)), (4, .x (.o (.p (1, 100) 0 0 1))), (5, .x (.o (.p (1, 101) 0 0 1))), (6, sc (.int .i64 c))], [((1, 100), zGr), ((1, 101), bxGr (treePt l, pr) (1, 102)), ((1, 102), .row 4 (pr.map cDigest.enc))], 2⟩) (fun _ => m < l.length ∧ 2 ≤ c) ?_ ?_
  · by_cases c1 : m = l.length
    · have d1 : ((m : Int) = (l.length : Int)) = True := eq_true (by omega)
      simp only [go_sem, ↓reduceIte, reduceCtorEq, Nat.reduceAdd, Nat.reduceMul, Nat.reduceEqDiff, Nat.reduceSub, Nat.reduceLT, Nat.reduceLeDiff, Nat.reduceAnd, Nat.reduceShiftRight, Nat.reduceBEq, Nat.reduceBNe, Nat.reduceBneDiff, Nat.reduceBeqDiff, Int.reduceToNat, Int.reduceLE, Int.reduceLT, Int.reduceEq, d1]
      exact ⟨(treePt l, pr), by dsimp only; omega, rfl⟩
    have d1 : ((m : Int) = (l.length : Int)) = False := eq_false (by omega)
    by_cases c2 : c < 2
    · have d2 : ((c : Int) < 2) = True := eq_true (by omega)
      simp only [go_sem, ↓reduceIte, reduceCtorEq, Nat.reduceAdd, Nat.reduceMul, Nat.reduceEqDiff, Nat.reduceSub, Nat.reduceLT, Nat.reduceLeDiff, Nat.reduceAnd, Nat.reduceShiftRight, Nat.reduceBEq, Nat.reduceBNe, Nat.reduceBneDiff, Nat.reduceBeqDiff, Int.reduceToNat, Int.reduceLE, Int.reduceLT, Int.reduceEq, d1, d2]
      exact ⟨(treePt l, pr), by dsimp only; omega, rfl⟩
    · have d2 : ((c : Int) < 2) = False := eq_false (by omega)
      simp only [go_sem, ↓reduceIte, reduceCtorEq, Nat.reduceAdd, Nat.reduceMul, Nat.reduceEqDiff, Nat.reduceSub, Nat.reduceLT, Nat.reduceLeDiff, Nat.reduceAnd, Nat.reduceShiftRight, Nat.reduceBEq, Nat.reduceBNe, Nat.reduceBneDiff, Nat.reduceBeqDiff, Int.reduceToNat, Int.reduceLE, Int.reduceLT, Int.reduceEq, d1, d2]
      exact ⟨(), by omega, by omega⟩
  rintro _ ⟨h4, h5⟩
  have hgl : pr.length = (nodesI m l.length).length := by
    rw [← hpr, growM_s hk (by omega) h4, nodesI_map, List.length_map, List.length_map]
  have hkl : c ≤ pr.length := by
    rw [hgl, nodesI_map, List.length_map, List.length_append, fallO_peaks 0 l.length m (by omega) h4, hc]
    omega
  have w1 : IntKind.i64.wrap ((c : Int) - 2) = ((c - 2 : Nat) : Int) := by rw [wrap64] <;> omega
  have w2 : IntKind.i64.wrap ((c : Int) - 1) = ((c - 1 : Nat) : Int) := by rw [wrap64] <;> omega
  have l1 : c - 2 < pr.length := by omega
  have l2 : c - 1 < pr.length := by omega
  have x1 := List.getElem?_eq_getElem l1
  have x2 := List.getElem?_eq_getElem l2
  simp only [go_sem, ↓reduceIte, reduceCtorEq, Nat.reduceAdd, Nat.reduceMul, Nat.reduceEqDiff, Nat.reduceSub, Nat.reduceLT, Nat.reduceLeDiff, Nat.reduceAnd, Nat.reduceShiftRight, Nat.reduceBEq, Nat.reduceBNe, Nat.reduceBneDiff, Nat.reduceBeqDiff, Int.reduceToNat, Int.reduceLE, Int.reduceLT, Int.reduceEq, w1, w2, x1, x2, eq_true l1, eq_true l2]
  rintro ⟨x, y, ok⟩
  refine CutS.intro (H := H_spec_l4Twisted) ok_H_spec_l4Twisted (by kernel_rfl) (by kernel_rfl) (fun _ : Unit => ⟨[(0, .x (.o (.c (.s (l.map cStr.enc))))), (1, sc (.int .i64 m)), (4, .x (.o (.p (1, 100) 0 0 1))), (5, .x (.o (.p (1, 101) 0 0 1))), (6, sc (.int .i64 c)), (7, .x (.o (.p (1, 103) 0 0 1))), (8, .x (.o (.p (1, 104) 0 0 1)))], [((1, 100), zGr), ((1, 101), bxGr (treePt l, pr) (1, 102)), ((1, 102), .row 4 (pr.map cDigest.enc)), ((1, 103), bxDg x), ((1, 104), bxDg y)], 2⟩) (fun _ => True) ?_ ?_
  · cases ok
    · simp only [go_sem, ↓reduceIte, reduceCtorEq, Nat.reduceAdd, Nat.reduceMul, Nat.reduceEqDiff, Nat.reduceSub, Nat.reduceLT, Nat.reduceLeDiff, Nat.reduceAnd, Nat.reduceShiftRight, Nat.reduceBEq, Nat.reduceBNe, Nat.reduceBneDiff, Nat.reduceBeqDiff, Int.reduceToNat, Int.reduceLE, Int.reduceLT, Int.reduceEq]
      exact ⟨(treePt l, pr), by dsimp only; omega, rfl⟩
    · simp only [go_sem, ↓reduceIte, reduceCtorEq, Nat.reduceAdd, Nat.reduceMul, Nat.reduceEqDiff, Nat.reduceSub, Nat.reduceLT, Nat.reduceLeDiff, Nat.reduceAnd, Nat.reduceShiftRight, Nat.reduceBEq, Nat.reduceBNe, Nat.reduceBneDiff, Nat.reduceBeqDiff, Int.reduceToNat, Int.reduceLE, Int.reduceLT, Int.reduceEq]
      exact ⟨(), trivial⟩
  rintro _ _
  have hset : ∀ (q : List Digest) (k : Nat) (d : Digest), (q.map cDigest.enc).set k [.v (.int .u64 d.1.toNat), .v (.int .u64 d.2.1.toNat), .v (.int .u64 d.2.2.1.toNat), .v (.int .u64 d.2.2.2.toNat)] = (q.set k d).map cDigest.enc := fun q k d => by rw [List.map_set]; rfl
  have hs1 := hset pr (c - 2) x
  have hs2 := hset (pr.set (c - 2) x) (c - 1) y
  have x3 : (pr.set (c - 2) x)[c - 1]? = some (pr[c - 1]'l2) := by rw [List.getElem?_set_ne (by omega), x2]
  have hz : ((pr.set (c - 2) x).set (c - 1) y).length = pr.length := by rw [List.length_set, List.length_set]
  have hnd : nodeP 0 (l.length : Int) (m : Int) (l.length : Int) ((pr.set (c - 2) x).set (c - 1) y) := ⟨⟨by omega, by omega, by omega, by omega⟩, by omega, by rw [hz]; exact hgl, ⟨fun x hx => hx, fun x hx => hx⟩⟩
  simp only [go_sem, ↓reduceIte, reduceCtorEq, Nat.reduceAdd, Nat.reduceMul, Nat.reduceEqDiff, Nat.reduceSub, Nat.reduceLT, Nat.reduceLeDiff, Nat.reduceAnd, Nat.reduceShiftRight, Nat.reduceBEq, Nat.reduceBNe, Nat.reduceBneDiff, Nat.reduceBeqDiff, Int.reduceToNat, Int.reduceLE, Int.reduceLT, Int.reduceEq, w1, w2, x1, x3, eq_true l1, eq_true l2, hs1, hs2, List.length_set]
  exact ⟨hnd, (((treePt l).1, digW ((nodesI m l.length).zip ((pr.set (c - 2) x).set (c - 1) y)) 0 l.length), (pr.set (c - 2) x).set (c - 1) y), by dsimp only; omega, rfl⟩
abbrev RTwist : FR := .q2 (eList cStr) (eInt .i64) (fun g : Growth => .x (grE g)) (fun l m => (1 ≤ l.length ∧ l.length ≤ 256) ∧ (∀ x ∈ l, x.size ≤ 40) ∧ 1 ≤ m ∧ m ≤ l.length) (fun _ _ g => g.2.length ≤ 1000)
attribute [go_sem] RTwist
theorem ok_spec_l4Twisted : RTwist.ok Tryz.prog 21 := FR.q2_ok fun l m h => f_l4Twisted l m h.1 h.2.1 h.2.2

/-- A path carried from step to step, up to the clash of a growth that does not carry it. -/
def loopC (i : Int) (x : ByteArray) (fin : List Digest → Clash × Bool) : Point → List Digest → List Growth → Clash × Bool
  | _, p, [] => fin p
  | o, p, g :: gs => if pckM g.1 i x (liftM o.1 g.1.1 i p g.2).1 = true then loopC i x fin g.1 (liftM o.1 g.1.1 i p g.2).1 gs else clashG o g i x p
def mustC (f : Point) (gs : List Growth) (i : Int) (x : ByteArray) (px : List Digest) (y : ByteArray) (py : List Digest) : Bool :=
  (chainM f gs).2 && (decide (¬ x = y) && (pckM f i x px && pckM (chainM f gs).1 i y py))
def clashC (f : Point) (gs : List Growth) (i : Int) (x : ByteArray) (px : List Digest) (y : ByteArray) (py : List Digest) : Clash × Bool :=
  if mustC f gs i x px y py = true then loopC i x (fun p => clashP (chainM f gs).1.1 i x p y py) f px gs else ((⟨#[]⟩, ⟨#[]⟩), false)
theorem loop_clash {i : Int} {x y : ByteArray} {py : List Digest} {e : Point} (hne : ¬ x = y) (hy : pckM e i y py = true) : ∀ (gs : List Growth) (o : Point) (p : List Digest), chainF o gs = some e → pckM o i x p = true →
    ∃ c, loopC i x (fun p => clashP e.1 i x p y py) o p gs = (c, true) ∧ (c.1.size ≤ 65 ∧ c.2.size ≤ 65) ∧ clashM c = true
  | [], o, p, h, hp => by
    cases h
    obtain ⟨h1, h2⟩ := pckM_iff.1 hp
    obtain ⟨h3, h4⟩ := pckM_iff.1 hy
    have hr : (rootP e.1 i x p).1 = (rootP e.1 i y py).1 := by
      rw [rootP, if_pos h1, rootP, if_pos h3]
      exact h2.trans h4.symm
    have hc : clashP e.1 i x p y py = firstM (rowM e.1 i x p).1 (rowM e.1 i y py).1 := if_pos ⟨h1, h3, hr⟩
    have h5 : (clashP e.1 i x p y py).2 = true := by
      rw [hc, paths_part h1 h3]
      exact decide_eq_true fun h => hne h.1
    have h6 : clashP e.1 i x p y py = ((clashP e.1 i x p y py).1, true) := Prod.ext rfl h5
    exact ⟨_, h6, paths_clash h6⟩
  | g :: gs, o, p, h, hp => by
    rw [chainF] at h
    split at h
    · rename_i hg
      rw [loopC]
      by_cases hu : pckM g.1 i x (liftM o.1 g.1.1 i p g.2).1 = true
      · rw [if_pos hu]
        exact loop_clash hne hy gs g.1 _ h hu
      · rw [if_neg hu]
        exact (growth_clash hp hg).2 (by simpa using hu)
    · cases h
theorem loopC_step {i : Int} {x : ByteArray} {fin : List Digest → Clash × Bool} {o : Point} {p : List Digest} {gs : List Growth} {k : Nat} {g : Growth} (h : gs[k]? = some g) : loopC i x fin o p (gs.drop k) = if pckM g.1 i x (liftM o.1 g.1.1 i p g.2).1 = true then loopC i x fin g.1 (liftM o.1 g.1.1 i p g.2).1 (gs.drop (k + 1)) else clashG o g i x p := by
  obtain ⟨hi, rfl⟩ := List.getElem?_eq_some_iff.1 h
  rw [List.drop_eq_getElem_cons hi, loopC]

def FM.f7 {A1 A2 A3 A4 A5 A6 A7 : Type} (a : CE A1) (b : CE A2) (c : CE A3) (d : CE A4) (e : CE A5) (f : CE A6) (g : CE A7) (r : A1 → A2 → A3 → A4 → A5 → A6 → A7 → E) (pre : A1 → A2 → A3 → A4 → A5 → A6 → A7 → Prop) : FM := ⟨[], fun args rin => match args, rin with
  | [e1, e2, e3, e4, e5, e6, e7], [] => match a.dec e1, b.dec e2, c.dec e3, d.dec e4, e.dec e5, f.dec e6, g.dec e7 with
    | some x, some y, some z, some u, some v, some s, some t => some (r x y z u v s t, [], pre x y z u v s t)
    | _, _, _, _, _, _, _ => none
  | _, _ => none⟩
theorem FM.f7_ok {P : Program} {gg : FuncId} {A1 A2 A3 A4 A5 A6 A7 : Type} {a : CE A1} {b : CE A2} {c : CE A3} {d : CE A4} {e : CE A5} {f : CE A6} {g : CE A7} {r : A1 → A2 → A3 → A4 → A5 → A6 → A7 → E} {pre : A1 → A2 → A3 → A4 → A5 → A6 → A7 → Prop} (h : ∀ x y z u v s t, pre x y z u v s t → VFun P gg [a.enc x, b.enc y, c.enc z, d.enc u, e.enc v, f.enc s, g.enc t] [] (r x y z u v s t) []) : (FM.f7 a b c d e f g r pre).ok P gg := by
  intro args rin res rout p hm hp
  simp only [FM.f7] at hm
  split at hm
  · split at hm
    · rename_i h1 h2 h3 h4 h5 h6 h7
      cases hm
      exact (h _ _ _ _ _ _ _ hp).weaken (.cons (a.ok _ _ h1) (.cons (b.ok _ _ h2) (.cons (c.ok _ _ h3) (.cons (d.ok _ _ h4) (.cons (e.ok _ _ h5) (.cons (f.ok _ _ h6) (.cons (g.ok _ _ h7) .nil)))))))
    · cases hm
  · cases hm
attribute [go_sem] FM.f7

abbrev ccPre (gs : List Growth) : Prop := gs.length ≤ 1048576 ∧ ∀ g ∈ gs, g.2.length ≤ 1000000
abbrev MClashC : FM := .f7 (CE.st cPoint) (eList cGrowth) (eInt .i64) eStr (eList cDigest) eStr (eList cDigest) (fun f gs i x px y py => eFirst.enc (clashC f gs i x px y py)) (fun _ gs _ _ _ _ _ => ccPre gs)
attribute [go_sem] MClashC
abbrev bxCl0 : Root := .bx [[.c (.v (.string ⟨#[]⟩)), .c (.v (.string ⟨#[]⟩))]]
attribute [go_sem] bxCl0
def H_impl_ClashOfChain : Hint := { fs := [(7, MChain), (23, MPck), (24, MLift), (25, MClashG), (26, MClashP)], kp := [(0, [0, 1, 2, 3, 4, 5, 6]), (1, [1, 2, 3, 4, 5, 6, 7, 14]), (2, [1, 2, 3, 4, 5, 6, 7, 14, 16, 17]), (3, [14]), (4, [1, 2, 3, 4, 5, 6, 7, 14, 16]), (5, [1, 2, 3, 5, 6, 14, 16, 18, 19]), (6, [2, 3, 5, 6, 14, 16, 18, 19, 56, 57, 58]), (7, [2, 3, 5, 6, 14, 16, 18, 19, 56, 57, 58]), (8, [2, 3, 5, 6, 14, 16, 18, 19, 21, 56, 57, 58]), (9, [2, 3, 5, 6, 14, 16, 18, 19, 21, 22, 56, 57, 58]), (10, [2, 3, 14, 18, 19, 21]), (11, [2, 3, 5, 6, 14, 16, 18, 21, 22, 56, 57, 58]), (12, [2, 3, 5, 6, 14, 16, 18, 19, 56, 57, 58]), (13, [2, 3, 5, 6, 14, 16, 19])], an := [], cut := [4] }
attribute [go_sem] H_impl_ClashOfChain
theorem ok_H_impl_ClashOfChain : H_impl_ClashOfChain.ok Tryz.prog := AllOk.okR (.cons ok_impl_ChainEnd (.cons ok_impl_PathCheck (.cons ok_impl_GrowthLift (.cons ok_impl_ClashOfGrowth (.cons ok_impl_ClashOfPaths .nil))))) .nil mix
theorem f_impl_ClashOfChain (f : Point) (gs : List Growth) (i : Int) (x : ByteArray) (px : List Digest) (y : ByteArray) (py : List Digest) (h : ccPre gs) : VFun Tryz.prog 5 [(CE.st cPoint).enc f, (eList cGrowth).enc gs, (eInt .i64).enc i, eStr.enc x, (eList cDigest).enc px, eStr.enc y, (eList cDigest).enc py] [] (eFirst.enc (clashC f gs i x px y py)) [] := by
  obtain ⟨h1, h2⟩ := h
  have kA : gs.length ≤ 1048576 ∧ ∀ g ∈ gs, g.2.length ≤ 1048576 := ⟨h1, fun g hg => by have := h2 g hg; omega⟩
  refine VFun_pure (n := 104) (rs := [.cell 14 33, .tmp 15]) Tryz.func5 rfl rfl rfl rfl H_impl_ClashOfChain ok_H_impl_ClashOfChain _ _ (Nat.le_of_ble_eq_true rfl) (by kernel_rfl) ?_
  obtain ⟨C, hC⟩ : ∃ C, chainM f gs = C := ⟨_, rfl⟩
  obtain ⟨e, ok⟩ := C
  have hmu : mustC f gs i x px y py = (ok && (decide (¬ x = y) && (pckM f i x px && pckM e i y py))) := by rw [mustC, hC]
  simp only [go_sem, ↓reduceIte, reduceCtorEq, Nat.reduceAdd, Nat.reduceMul, Nat.reduceEqDiff, Nat.reduceSub, Nat.reduceLT, Nat.reduceLeDiff, Nat.reduceAnd, Nat.reduceShiftRight, Nat.reduceBEq, Nat.reduceBNe, Nat.reduceBneDiff, Nat.reduceBeqDiff, Int.reduceToNat, Int.reduceLE, Int.reduceLT, Int.reduceEq, hC]
  refine ⟨kA, ?_⟩
  by_cases hall : ok = true ∧ ¬ x = y ∧ pckM f i x px = true ∧ pckM e i y py = true
  case neg =>
    have hcl : clashC f gs i x px y py = ((⟨#[]⟩, ⟨#[]⟩), false) := by
      rw [clashC, if_neg]
      rw [hmu]
      simp only [Bool.and_eq_true, decide_eq_true_eq]
      exact hall
    rw [hcl]
    refine CutS.intro (H := H_impl_ClashOfChain) ok_H_impl_ClashOfChain (by kernel_rfl) (by kernel_rfl) (fun _ : Unit => ⟨[], [], 2⟩) (fun _ => False) ?_ ?_
    · cases ok
      · simp only [go_sem, ↓reduceIte, reduceCtorEq, Nat.reduceAdd, Nat.reduceMul, Nat.reduceEqDiff, Nat.reduceSub, Nat.reduceLT, Nat.reduceLeDiff, Nat.reduceAnd, Nat.reduceShiftRight, Nat.reduceBEq, Nat.reduceBNe, Nat.reduceBneDiff, Nat.reduceBeqDiff, Int.reduceToNat, Int.reduceLE, Int.reduceLT, Int.reduceEq]
      by_cases hxy : x = y
      · simp only [go_sem, ↓reduceIte, reduceCtorEq, Nat.reduceAdd, Nat.reduceMul, Nat.reduceEqDiff, Nat.reduceSub, Nat.reduceLT, Nat.reduceLeDiff, Nat.reduceAnd, Nat.reduceShiftRight, Nat.reduceBEq, Nat.reduceBNe, Nat.reduceBneDiff, Nat.reduceBeqDiff, Int.reduceToNat, Int.reduceLE, Int.reduceLT, Int.reduceEq, eq_true hxy]
      cases hp : pckM f i x px with
      | false => simp only [go_sem, ↓reduceIte, reduceCtorEq, Nat.reduceAdd, Nat.reduceMul, Nat.reduceEqDiff, Nat.reduceSub, Nat.reduceLT, Nat.reduceLeDiff, Nat.reduceAnd, Nat.reduceShiftRight, Nat.reduceBEq, Nat.reduceBNe, Nat.reduceBneDiff, Nat.reduceBeqDiff, Int.reduceToNat, Int.reduceLE, Int.reduceLT, Int.reduceEq, hxy, hp]
      | true =>
        have hq : pckM e i y py = false := by
          cases hq : pckM e i y py with
          | false => rfl
          | true => exact absurd ⟨rfl, hxy, hp, hq⟩ hall
        simp only [go_sem, ↓reduceIte, reduceCtorEq, Nat.reduceAdd, Nat.reduceMul, Nat.reduceEqDiff, Nat.reduceSub, Nat.reduceLT, Nat.reduceLeDiff, Nat.reduceAnd, Nat.reduceShiftRight, Nat.reduceBEq, Nat.reduceBNe, Nat.reduceBneDiff, Nat.reduceBeqDiff, Int.reduceToNat, Int.reduceLE, Int.reduceLT, Int.reduceEq, hxy, hp, hq]
    exact fun _ h => h.elim
  obtain ⟨rfl, hxy, hp, hq⟩ := hall
  have hcl : clashC f gs i x px y py = loopC i x (fun p => clashP e.1 i x p y py) f px gs := by
    rw [clashC, if_pos, hC]
    rw [hmu, decide_eq_true hxy, hp, hq]; rfl
  rw [hcl]
  have h8 : ¬ 256 < gs.length := fun h8 => by rw [chainM_big h8] at hC; cases hC
  have hF : chainF f gs = some e := by
    cases hq : chainF f gs with
    | some q => rw [chainM_at h8 hq] at hC; cases hC; rfl
    | none => rw [chainM_no h8 hq] at hC; cases hC
  refine CutS.intro (H := H_impl_ClashOfChain) ok_H_impl_ClashOfChain (by kernel_rfl) (by kernel_rfl) (fun _ : Unit => ⟨[(1, .x (.o (.c (.s (gs.map cGrowth.enc))))), (2, sc (.int .i64 i)), (3, sc (.string x)), (4, .x (.o (.c (.s (px.map cDigest.enc))))), (5, sc (.string y)), (6, .x (.o (.c (.s (py.map cDigest.enc))))), (7, .x (.o (.p (1, 100) 0 0 1))), (14, .x (.o (.p (1, 101) 0 0 1))), (16, .x (.o (.p (1, 102) 0 0 1)))], [((1, 100), bxPt f), ((1, 101), bxCl0), ((1, 102), bxPt e)], 2⟩) (fun _ => True) ?_ ?_
  · simp only [go_sem, ↓reduceIte, reduceCtorEq, Nat.reduceAdd, Nat.reduceMul, Nat.reduceEqDiff, Nat.reduceSub, Nat.reduceLT, Nat.reduceLeDiff, Nat.reduceAnd, Nat.reduceShiftRight, Nat.reduceBEq, Nat.reduceBNe, Nat.reduceBneDiff, Nat.reduceBeqDiff, Int.reduceToNat, Int.reduceLE, Int.reduceLT, Int.reduceEq, hxy, hp, hq]
    exact ⟨(), trivial⟩
  rintro _ _
  simp only [go_sem, ↓reduceIte, reduceCtorEq, Nat.reduceAdd, Nat.reduceMul, Nat.reduceEqDiff, Nat.reduceSub, Nat.reduceLT, Nat.reduceLeDiff, Nat.reduceAnd, Nat.reduceShiftRight, Nat.reduceBEq, Nat.reduceBNe, Nat.reduceBneDiff, Nat.reduceBeqDiff, Int.reduceToNat, Int.reduceLE, Int.reduceLT, Int.reduceEq]
  obtain ⟨fin, hfin⟩ : ∃ fin : List Digest → Clash × Bool, (fun p => clashP e.1 i x p y py) = fin := ⟨_, rfl⟩
  have hfe : ∀ p, fin p = clashP e.1 i x p y py := fun p => by rw [← hfin]
  rw [hfin]
  obtain ⟨T, hT⟩ : ∃ T, loopC i x fin f px gs = T := ⟨_, rfl⟩
  rw [hT]
  refine LoopV.go (H := H_impl_ClashOfChain) ok_H_impl_ClashOfChain (by kernel_rfl) (fun z : Nat × Point × List Digest => ⟨[(2, sc (.int .i64 i)), (3, sc (.string x)), (5, sc (.string y)), (6, .x (.o (.c (.s (py.map cDigest.enc))))), (14, .x (.o (.p (1, 100) 0 0 1))), (16, .x (.o (.p (1, 101) 0 0 1))), (18, .x (.o (.p (1, 102) 0 0 1))), (19, .x (.o (.c (.s (z.2.2.map cDigest.enc))))), (56, .x (.o (.c (.s (gs.map cGrowth.enc))))), (57, sc (.int .i64 gs.length)), (58, sc (.int .i64 z.1))], [((1, 100), bxCl0), ((1, 101), bxPt e), ((1, 102), bxPt z.2.1)], 2⟩) (fun z => gs.length - z.1) (fun z => z.1 ≤ gs.length ∧ pckM z.2.1 i x z.2.2 = true ∧ chainF z.2.1 (gs.drop z.1) = some e ∧ loopC i x fin z.2.1 z.2.2 (gs.drop z.1) = T) ?_ (0, f, px) ⟨Nat.zero_le _, hp, hF, hT⟩
  rintro ⟨k, o, p⟩ ⟨j1, j2, j3, j4⟩
  dsimp only at j1 j2 j3 j4
  have w1 : IntKind.i64.wrap ((k : Int) + 1) = ((k + 1 : Nat) : Int) := by rw [wrap64] <;> omega
  by_cases hlt : k < gs.length
  case neg =>
    have c1 : ((k : Int) < (gs.length : Int)) = False := eq_false (by omega)
    rw [List.drop_of_length_le (by omega), loopC, hfe] at j4
    simp only [go_sem, ↓reduceIte, reduceCtorEq, Nat.reduceAdd, Nat.reduceMul, Nat.reduceEqDiff, Nat.reduceSub, Nat.reduceLT, Nat.reduceLeDiff, Nat.reduceAnd, Nat.reduceShiftRight, Nat.reduceBEq, Nat.reduceBNe, Nat.reduceBneDiff, Nat.reduceBeqDiff, Int.reduceToNat, Int.reduceLE, Int.reduceLT, Int.reduceEq, c1, j4]
  have c1 : ((k : Int) < (gs.length : Int)) = True := eq_true (by omega)
  have hx := List.getElem?_eq_getElem hlt
  have hm := h2 _ (List.mem_of_getElem? hx)
  obtain ⟨g, hgg⟩ : ∃ g, gs[k]'hlt = g := ⟨_, rfl⟩
  rw [hgg] at hx hm
  rw [chainF_step hx] at j3
  rw [loopC_step hx] at j4
  have hg : grcM o g.1 g.2 = 0 := Classical.byContradiction fun hne => by rw [if_neg hne] at j3; cases j3
  rw [if_pos hg] at j3
  have hpl : p.length ≤ 256 := by
    obtain ⟨b1, b2, b3, b4⟩ := pathB_iff (pckM_iff.1 j2).1
    have := dirsM_len o.1.toNat i.toNat
    omega
  have kp : p.length ≤ 1000000 ∧ g.2.length ≤ 1000000 := ⟨by omega, hm⟩
  obtain ⟨up, hup⟩ : ∃ up, (liftM o.1 g.1.1 i p g.2).1 = up := ⟨_, rfl⟩
  rw [hup] at j4
  have hl := (growth_clash j2 hg).1
  by_cases hu : pckM g.1 i x up = true
  · rw [if_pos hu] at j4
    simp only [go_sem, ↓reduceIte, reduceCtorEq, Nat.reduceAdd, Nat.reduceMul, Nat.reduceEqDiff, Nat.reduceSub, Nat.reduceLT, Nat.reduceLeDiff, Nat.reduceAnd, Nat.reduceShiftRight, Nat.reduceBEq, Nat.reduceBNe, Nat.reduceBneDiff, Nat.reduceBeqDiff, Int.reduceToNat, Int.reduceLE, Int.reduceLT, Int.reduceEq, c1, w1, hx, eq_true hlt, hup, hl, hu]
    exact ⟨kp, (k + 1, g.1, up), ⟨by dsimp only; omega, hu, j3, j4⟩, by dsimp only; omega, rfl⟩
  · rw [if_neg hu] at j4
    have hu' : pckM g.1 i x up = false := by simpa using hu
    simp only [go_sem, ↓reduceIte, reduceCtorEq, Nat.reduceAdd, Nat.reduceMul, Nat.reduceEqDiff, Nat.reduceSub, Nat.reduceLT, Nat.reduceLeDiff, Nat.reduceAnd, Nat.reduceShiftRight, Nat.reduceBEq, Nat.reduceBNe, Nat.reduceBneDiff, Nat.reduceBeqDiff, Int.reduceToNat, Int.reduceLE, Int.reduceLT, Int.reduceEq, c1, w1, hx, eq_true hlt, hup, hl, hu', j4]
    exact ⟨kp, kp⟩
theorem ok_impl_ClashOfChain : MClashC.ok Tryz.prog 5 := FM.f7_ok fun f gs i x px y py h => f_impl_ClashOfChain f gs i x px y py h

def H_spec_ClashOk : Hint := { fs := [(37, MHashOf)], kp := [(0, [0]), (1, [1])], an := [(1, [0, 1, 3, 7, 15, 31, 63, 127, 255, 511, 1023, 2047, 4095, 2047, 10239, 32767, 65535, 131071, 262143, 524287, 1048575, 262143, 2359295, 8388607, 16777215, 33554431, 67108863])] }
attribute [go_sem] H_spec_ClashOk
theorem ok_H_spec_ClashOk : H_spec_ClashOk.ok Tryz.prog := AllOk.okR (.cons ok_spec_HashOf .nil) .nil mix
theorem f_spec_ClashOk (c : Clash) (h : c.1.size ≤ 1000000 ∧ c.2.size ≤ 1000000) : VFun Tryz.prog 13 [(CE.st cClash).enc c] [] (eBool.enc (clashM c)) [] := by
  obtain ⟨l, r⟩ := c
  obtain ⟨h1, h2⟩ := h
  dsimp only at h1 h2
  have hd := dig_eq (hashOf l) (hashOf r)
  refine VFun_pure (n := 29) (rs := [.tmp 2]) Tryz.func13 rfl rfl rfl rfl H_spec_ClashOk ok_H_spec_ClashOk _ _ (Nat.le_of_ble_eq_true rfl) (by kernel_rfl) ?_
  by_cases hlr : l = r
  · simp only [go_sem, ↓reduceIte, reduceCtorEq, Nat.reduceAdd, Nat.reduceMul, Nat.reduceEqDiff, Nat.reduceSub, Nat.reduceLT, Nat.reduceLeDiff, Nat.reduceAnd, Nat.reduceShiftRight, Nat.reduceBEq, Nat.reduceBNe, Nat.reduceBneDiff, Nat.reduceBeqDiff, Int.reduceToNat, Int.reduceLE, Int.reduceLT, Int.reduceEq, eq_true hlr]
    unfold clashM
    rw [decide_eq_false (not_not_intro hlr)]
    exact ite_intro (fun _ => ite_intro (fun _ => rfl) fun _ => rfl) fun _ => rfl
  · simp only [go_sem, ↓reduceIte, reduceCtorEq, Nat.reduceAdd, Nat.reduceMul, Nat.reduceEqDiff, Nat.reduceSub, Nat.reduceLT, Nat.reduceLeDiff, Nat.reduceAnd, Nat.reduceShiftRight, Nat.reduceBEq, Nat.reduceBNe, Nat.reduceBneDiff, Nat.reduceBeqDiff, Int.reduceToNat, Int.reduceLE, Int.reduceLT, Int.reduceEq, eq_false hlr, hd]
    unfold clashM
    rw [decide_eq_true (show ¬ (l, r).1 = (l, r).2 from hlr), Bool.true_and]
    refine ite_intro (fun c1 => ite_intro (fun c2 => ⟨h1, h2, ?_⟩) fun c2 => ?_) fun c1 => ?_
    · rw [decide_eq_true (show (((l, r).1.size : Nat) : Int) ≤ 20000 from c1), decide_eq_true (show (((l, r).2.size : Nat) : Int) ≤ 20000 from c2), Bool.true_and, Bool.true_and]
    · rw [decide_eq_false (show ¬ (((l, r).2.size : Nat) : Int) ≤ 20000 from c2), Bool.and_false, Bool.false_and]
    · rw [decide_eq_false (show ¬ (((l, r).1.size : Nat) : Int) ≤ 20000 from c1), Bool.false_and, Bool.false_and]
theorem ok_spec_ClashOk : MClashOk.ok Tryz.prog 13 := FM.f1_ok fun c h => f_spec_ClashOk c h

def H_laws_sameTexts : Hint := { fs := [], kp := [(0, [0, 1]), (1, [0, 1]), (2, []), (3, [0, 1]), (4, [0, 1, 5]), (6, [0, 1, 5]), (7, []), (5, [0, 1, 5]), (8, [])], an := [(6, [0, 0, 3, 7, 0, 0, 48, 112, 255])] }
attribute [go_sem] H_laws_sameTexts
theorem ok_H_laws_sameTexts : H_laws_sameTexts.ok Tryz.prog := AllOk.okR .nil .nil mix
theorem f_sameTexts (xs : List ByteArray) (hl : xs.length ≤ 1100000) : VFun Tryz.prog 10 [(eList cStr).enc xs, (eList cStr).enc xs] [] (eBool.enc true) [] := by
  refine VFun_pure (n := 26) (rs := [.tmp 4]) Tryz.func10 rfl rfl rfl rfl H_laws_sameTexts ok_H_laws_sameTexts _ _ (Nat.le_of_ble_eq_true rfl) (by kernel_rfl) ?_
  simp only [go_sem, ↓reduceIte, reduceCtorEq, Nat.reduceAdd, Nat.reduceMul, Nat.reduceEqDiff, Nat.reduceSub, Nat.reduceLT, Nat.reduceLeDiff, Nat.reduceAnd, Nat.reduceShiftRight, Nat.reduceBEq, Nat.reduceBNe, Nat.reduceBneDiff, Nat.reduceBeqDiff, Int.reduceToNat, Int.reduceLE, Int.reduceLT, Int.reduceEq]
  refine LoopV.go (H := H_laws_sameTexts) ok_H_laws_sameTexts (by kernel_rfl) (fun i : Nat => ⟨[(0, .x (.o (.c (.s (xs.map cStr.enc))))), (1, .x (.o (.c (.s (xs.map cStr.enc))))), (5, sc (.int .i64 i))], [], 2⟩) (fun i => xs.length - i) (fun i => i ≤ xs.length) ?_ 0 (Nat.zero_le _)
  intro i hi
  have hw : IntKind.i64.wrap ((i : Int) + 1) = ((i + 1 : Nat) : Int) := by rw [wrap64] <;> omega
  by_cases hlt : i < xs.length
  · have c1 : ((i : Int) < (xs.length : Int)) = True := eq_true (by omega)
    obtain ⟨x, hx⟩ : ∃ r, xs[i]? = some r := ⟨_, List.getElem?_eq_getElem hlt⟩
    simp only [go_sem, ↓reduceIte, reduceCtorEq, Nat.reduceAdd, Nat.reduceMul, Nat.reduceEqDiff, Nat.reduceSub, Nat.reduceLT, Nat.reduceLeDiff, Nat.reduceAnd, Nat.reduceShiftRight, Nat.reduceBEq, Nat.reduceBNe, Nat.reduceBneDiff, Nat.reduceBeqDiff, Int.reduceToNat, Int.reduceLE, Int.reduceLT, Int.reduceEq, hx, hw, c1, decide_true]
    exact ⟨i + 1, by omega, by omega, rfl⟩
  · have c1 : ((i : Int) < (xs.length : Int)) = False := eq_false (by omega)
    simp only [go_sem, ↓reduceIte, reduceCtorEq, Nat.reduceAdd, Nat.reduceMul, Nat.reduceEqDiff, Nat.reduceSub, Nat.reduceLT, Nat.reduceLeDiff, Nat.reduceAnd, Nat.reduceShiftRight, Nat.reduceBEq, Nat.reduceBNe, Nat.reduceBneDiff, Nat.reduceBeqDiff, Int.reduceToNat, Int.reduceLE, Int.reduceLT, Int.reduceEq, c1]
abbrev MSameT : FM := .f2 (eList cStr) (eList cStr) eBool.enc (fun _ _ => true) (fun x y => x = y ∧ x.length ≤ 1100000)
attribute [go_sem] MSameT
theorem ok_sameTextsC : MSameT.ok Tryz.prog 10 := FM.f2_ok fun x y h => by rw [← h.1]; exact f_sameTexts x h.2

end Go.Proofs.YtcgkhljolflenaaGreatW.V



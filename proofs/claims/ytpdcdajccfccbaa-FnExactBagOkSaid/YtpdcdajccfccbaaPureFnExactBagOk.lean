/- The plain statement of the law FnExactBagOk, proved, under its own bounds alone. -/
import Derived.Test.YtpdcdajccfccbaaMidFnExactBagOk
import Derived.Test.YtpdcdajccfccbaaWKitA
namespace Go.Proofs.Ytpdcdajccfccbaa.Pure
open Go.RowKit Go.Proofs.Ytpdcdajccfccbaa.PFnExactBagOk Go.Proofs.YtpdcdajccfccbaaW.PrintWords Go.Proofs.YtpdcdajccfccbaaW.PrintLast
set_option linter.unusedSimpArgs false
set_option linter.unusedVariables false
namespace BagOkP
theorem rd29 (l : List S29) (i : Nat) (h : i < l.length) : rd_T29 l (i : Int) = l[i] := by unfold rd_T29; rw [Int.toNat_natCast, getD_lt _ _ _ h]
theorem rd32 (l : List S32) (i : Nat) (h : i < l.length) : rd_T32 l (i : Int) = l[i] := by unfold rd_T32; rw [Int.toNat_natCast, getD_lt _ _ _ h]
theorem in_eq (a b c : Int) : impl_in.f a b c = spec_l1In.f a b c := rfl
theorem in_some (a b c : Int) : spec_l1In.f a b c = some (decide (b ≤ a ∧ a ≤ c)) := by
  unfold spec_l1In.f
  by_cases h : a ≥ b
  · rw [if_pos h]; simp; intro _; omega
  · rw [if_neg h]; simp; intro _; omega
/-- how much is left, or too much came -/
theorem szS (l : List S29) (hl : l.length ≤ maxLen) (hs : ∀ y ∈ l, G29 y) (i : Nat) (hi : i ≤ l.length) (c : Int) (h0 : 0 ≤ c) (h1 : c ≤ 1048576) :
    ∃ r, Ev (fun k => laws_szLetterS.l0 k l c (i : Int)) r ∧ (r = -1 ∨ 0 ≤ r) := by
  unfold maxLen at hl
  induction hd : l.length - i generalizing i c with
  | zero =>
    refine ⟨c, (Ev.mk' (1) fun k hk => ?_), .inr h0⟩
    obtain ⟨m, rfl⟩ : ∃ m, k = m + 1 := ⟨k - 1, by omega⟩
    simp only [laws_szLetterS.l0]
    rw [if_neg (by omega)]
  | succ d ih =>
    have hlt : i < l.length := by omega
    have hz : (l[i]).f2.size ≤ 9223372036854775807 := (hs _ (List.getElem_mem hlt)).2.2
    have hw : wrap64 (c - ((l[i]).f2.size : Int)) = c - ((l[i]).f2.size : Int) := wrap_of (by omega) (by omega)
    by_cases hneg : c - ((l[i]).f2.size : Int) < 0
    · refine ⟨-1, (Ev.mk' (1) fun k hk => ?_), .inl rfl⟩
      obtain ⟨m, rfl⟩ : ∃ m, k = m + 1 := ⟨k - 1, by omega⟩
      simp only [laws_szLetterS.l0]
      rw [if_pos (by omega), if_pos (by omega), rd29 l i hlt]
      unfold laws_szLetter.f
      rw [hw, if_pos hneg]; rfl
    · obtain ⟨r, hev, hr⟩ := ih (i + 1) (by omega) (c - ((l[i]).f2.size : Int)) (by omega) (by omega) (by omega); obtain ⟨K, hK⟩ := Ev.get hev
      refine ⟨r, (Ev.mk' (K + 1) fun k hk => ?_), hr⟩
      obtain ⟨m, rfl⟩ : ∃ m, k = m + 1 := ⟨k - 1, by omega⟩
      simp only [laws_szLetterS.l0]
      rw [if_pos (by omega), if_pos (by omega), rd29 l i hlt]
      unfold laws_szLetter.f
      rw [hw, if_neg hneg, Option.bind_some, if_neg hneg, wrap_succ i (by omega)]
      exact hK m (by omega)
theorem sz (a : Int) (l : List S29) (hl : l.length ≤ maxLen) (hs : ∀ y ∈ l, G29 y) :
    ∃ r, Ev (fun k => laws_szBag.f k a l 1048576) r ∧ (r < 0 ∨ 0 ≤ r ∧ l.length ≤ 1048576) := by
  have hl' := hl
  unfold maxLen at hl'
  have hw : wrap64 (1048576 - (l.length : Int)) = 1048576 - (l.length : Int) := wrap_of (by omega) (by omega)
  by_cases hneg : 1048576 - (l.length : Int) < 0
  · refine ⟨-1, (Ev.mk' (0) fun k _ => ?_), .inl (by omega)⟩
    unfold laws_szBag.f laws_szLetterS.f
    rw [hw, if_pos hneg]; rfl
  · obtain ⟨r, hev, hr⟩ := szS l hl hs 0 (by omega) (1048576 - (l.length : Int)) (by omega) (by omega); obtain ⟨K, hK⟩ := Ev.get hev
    rcases hr with hr | hr
    · refine ⟨-1, (Ev.mk' (K) fun k hk => ?_), .inl (by omega)⟩
      unfold laws_szBag.f laws_szLetterS.f
      rw [hw, if_neg hneg]
      have h2 : laws_szLetterS.l0 k l (1048576 - (l.length : Int)) 0 = some r := hK k hk
      rw [h2, hr]; rfl
    · refine ⟨r, (Ev.mk' (K) fun k hk => ?_), .inr ⟨hr, by omega⟩⟩
      unfold laws_szBag.f laws_szLetterS.f
      rw [hw, if_neg hneg]
      have h2 : laws_szLetterS.l0 k l (1048576 - (l.length : Int)) 0 = some r := hK k hk
      rw [h2, Option.bind_some, if_neg (by omega)]
def cv (x : S29) : S32 := ⟨x.f0, x.f1, x.f2⟩
theorem toS (l : List S29) (hl : l.length ≤ 1048576) : Ev (fun k => laws_toLetterS.f k l) (l.map cv) := by
  have h := down (n := l.length) (P := fun i => Ev (fun k => laws_toLetterS.l0 k l ((l.take i).map cv ++ List.replicate (l.length - i) z32) (i : Int)) (l.map cv)) ?_ ?_
  · obtain ⟨K, hK⟩ := Ev.get h
    refine (Ev.mk' (K) fun k hk => ?_)
    unfold laws_toLetterS.f
    rw [if_pos (by omega), if_pos (by omega)]
    have h2 := hK k hk
    simpa using h2
  · refine (Ev.mk' (1) fun k hk => ?_)
    obtain ⟨m, rfl⟩ : ∃ m, k = m + 1 := ⟨k - 1, by omega⟩
    simp only [laws_toLetterS.l0]
    rw [if_neg (by omega), List.take_length]
    simp
  · rintro i hi hev; obtain ⟨K, hK⟩ := Ev.get hev
    refine (Ev.mk' (K + 1) fun k hk => ?_)
    obtain ⟨m, rfl⟩ : ∃ m, k = m + 1 := ⟨k - 1, by omega⟩
    simp only [laws_toLetterS.l0]
    rw [if_pos (by omega), if_pos (by omega), rd29 l i hi]
    unfold laws_toLetter.f
    rw [Option.bind_some, if_pos (by rw [fill_len l cv z32 i (by omega)]; omega), wrap_succ i (by omega)]
    have h2 := hK m (by omega)
    rw [← fill_step l cv z32 i hi] at h2
    exact h2
theorem toB (a : Int) (l : List S29) (hl : l.length ≤ 1048576) : Ev (fun k => laws_toBag.f k a l) (a, l.map cv) := by
  obtain ⟨K, hK⟩ := Ev.get (toS l hl)
  refine (Ev.mk' (K) fun k hk => ?_)
  unfold laws_toBag.f
  have h2 := hK k hk; rw [h2]; rfl
def okL (x : S32) : Bool := decide ((0 ≤ x.f0 ∧ x.f0 ≤ 20) ∧ (0 ≤ x.f1 ∧ x.f1 ≤ 20) ∧ (x.f2.size : Int) ≤ 600)
theorem okL_spec (x : S32) : spec_LetterOk.f x.f0 x.f1 x.f2 = some (okL x) := by
  unfold spec_LetterOk.f okL
  simp only [in_some, Option.bind_some]
  by_cases h1 : 0 ≤ x.f0 ∧ x.f0 ≤ 20
  · by_cases h2 : 0 ≤ x.f1 ∧ x.f1 ≤ 20
    · simp [h1, h2]
    · simp [h1, h2]
  · simp [h1]
theorem okL_impl (x : S32) : impl_LetterOk.f x.f0 x.f1 x.f2 = some (okL x) := by
  rw [← okL_spec]; rfl
theorem specAll (a : Int) (l : List S32) (hl : l.length ≤ 1048576) : Ev (fun k => spec_BagOk.l0 k 0 a l) (l.all okL) := by
  have h := down (n := l.length) (P := fun i => Ev (fun k => spec_BagOk.l0 k (i : Int) a l) ((l.drop i).all okL)) ?_ ?_
  · simpa using h
  · refine (Ev.mk' (1) fun k hk => ?_)
    obtain ⟨m, rfl⟩ : ∃ m, k = m + 1 := ⟨k - 1, by omega⟩
    simp only [spec_BagOk.l0]
    rw [if_neg (by omega)]; simp
  · rintro i hi hev; obtain ⟨K, hK⟩ := Ev.get hev
    refine (Ev.mk' (K + 1) fun k hk => ?_)
    obtain ⟨m, rfl⟩ : ∃ m, k = m + 1 := ⟨k - 1, by omega⟩
    simp only [spec_BagOk.l0]
    rw [if_pos (by omega), if_pos (by omega), rd32 l i hi, okL_spec, Option.bind_some, drop_cons l i hi, List.all_cons, wrap_succ i (by omega)]
    have h2 := hK m (by omega)
    cases hb : okL l[i] with
    | true => rw [if_pos rfl, Bool.true_and]; exact h2
    | false => rw [if_neg (by simp), Bool.false_and]
def okB (a : Int) (l : List S32) : Bool := decide ((1 ≤ a ∧ a ≤ 64) ∧ (l.length : Int) ≤ a) && l.all okL
theorem specOk (a : Int) (l : List S32) (hl : l.length ≤ 1048576) : Ev (fun k => spec_BagOk.f k a l) (okB a l) := by
  obtain ⟨K, hK⟩ := Ev.get (specAll a l hl)
  refine (Ev.mk' (K + 1) fun k hk => ?_)
  obtain ⟨m, rfl⟩ : ∃ m, k = m + 1 := ⟨k - 1, by omega⟩
  unfold spec_BagOk.f okB
  rw [in_some, Option.bind_some]
  simp only [spec_BagOk.j0]
  by_cases h1 : 1 ≤ a ∧ a ≤ 64
  · by_cases h2 : (l.length : Int) ≤ a
    · rw [if_pos (by simpa using h1), if_neg (by simpa using h2)]
      have h3 := hK m (by omega)
      simpa [h1, h2] using h3
    · rw [if_pos (by simpa using h1), if_pos (by simp; omega)]
      simp [h2]
  · rw [if_neg (by simpa using h1)]
    simp [h1]
theorem implAll (a : Int) (l : List S32) (hl : l.length ≤ 1048576) : Ev (fun k => impl_BagOk.f k a l) (okB a l) := by
  have h := down (n := l.length) (P := fun i => Ev (fun k => impl_BagOk.l0 k l (l.length : Int) (i : Int) a l) (decide ((1 ≤ a ∧ a ≤ 64) ∧ (l.length : Int) ≤ a) && (l.drop i).all okL)) ?_ ?_
  · obtain ⟨K, hK⟩ := Ev.get h
    refine (Ev.mk' (K) fun k hk => ?_)
    have h2 := hK k hk
    simpa [impl_BagOk.f, okB] using h2
  · refine (Ev.mk' (1) fun k hk => ?_)
    obtain ⟨m, rfl⟩ : ∃ m, k = m + 1 := ⟨k - 1, by omega⟩
    simp only [impl_BagOk.l0]
    rw [if_neg (by omega), in_eq, in_some, Option.bind_some]
    by_cases h1 : 1 ≤ a ∧ a ≤ 64
    · simp [h1]
    · simp [h1]
  · rintro i hi hev; obtain ⟨K, hK⟩ := Ev.get hev
    refine (Ev.mk' (K + 1) fun k hk => ?_)
    obtain ⟨m, rfl⟩ : ∃ m, k = m + 1 := ⟨k - 1, by omega⟩
    simp only [impl_BagOk.l0]
    rw [if_pos (by omega), if_pos (by omega), if_pos (by omega), rd32 l i hi, okL_impl, Option.bind_some, drop_cons l i hi, List.all_cons, wrap_succ i (by omega)]
    have h2 := hK m (by omega)
    cases hb : okL l[i] with
    | true => rw [if_pos rfl, Bool.true_and]; exact h2
    | false => rw [if_neg (by simp), Bool.false_and, Bool.and_false]
theorem eqL (x : S32) : laws_eqLetter.f x.f0 x.f1 x.f2 x.f0 x.f1 x.f2 = some true := by
  unfold laws_eqLetter.f
  rw [if_pos rfl, if_pos rfl, if_pos rfl]
theorem eqS (l : List S32) (hl : l.length ≤ 1048576) : Ev (fun k => laws_eqLetterS.f k l l) true := by
  have h := down (n := l.length) (P := fun i => Ev (fun k => laws_eqLetterS.l0 k l l (i : Int)) true) ?_ ?_
  · obtain ⟨K, hK⟩ := Ev.get h
    refine (Ev.mk' (K) fun k hk => ?_)
    unfold laws_eqLetterS.f
    rw [if_pos rfl]
    exact hK k hk
  · refine (Ev.mk' (1) fun k hk => ?_)
    obtain ⟨m, rfl⟩ : ∃ m, k = m + 1 := ⟨k - 1, by omega⟩
    simp only [laws_eqLetterS.l0]
    rw [if_neg (by omega)]
  · rintro i hi hev; obtain ⟨K, hK⟩ := Ev.get hev
    refine (Ev.mk' (K + 1) fun k hk => ?_)
    obtain ⟨m, rfl⟩ : ∃ m, k = m + 1 := ⟨k - 1, by omega⟩
    simp only [laws_eqLetterS.l0]
    rw [if_pos (by omega), if_pos (by omega), if_pos (by omega), rd32 l i hi, eqL, Option.bind_some, if_pos rfl, wrap_succ i (by omega)]
    exact hK m (by omega)
end BagOkP
open BagOkP in
theorem FnExactBagOk : laws_FnExactBagOk.Pure := by
  rintro a l ⟨_, hl, hs⟩
  obtain ⟨r, hev, hr⟩ := sz a l hl hs; obtain ⟨K0, h0⟩ := Ev.get hev
  rcases hr with hr | ⟨hr, hlen⟩
  · refine ⟨K0, ?_⟩
    unfold laws_FnExactBagOk.f
    rw [h0 K0 (Nat.le_refl _), Option.bind_some, if_pos hr]
  · obtain ⟨K1, h1⟩   := Ev.get (toB a l hlen)
    have hlen2 : (l.map cv).length ≤ 1048576 := by rw [List.length_map]; exact hlen
    obtain ⟨K2, h2⟩ := Ev.get <| specOk a (l.map cv) hlen2
    obtain ⟨K3, h3⟩ := Ev.get <| implAll a (l.map cv) hlen2
    obtain ⟨K4, h4⟩ := Ev.get <| eqS (l.map cv) hlen2
    refine ⟨K0 + K1 + K2 + K3 + K4, ?_⟩
    unfold laws_FnExactBagOk.f laws_eqBag.f
    rw [h0 _ (by omega), Option.bind_some, if_neg (by omega), h1 _ (by omega)]
    simp only [Option.bind_some]
    rw [h2 _ (by omega)]
    simp only [Option.bind_some]
    rw [h3 _ (by omega)]
    simp only [Option.bind_some]
    rw [if_neg (by simp), if_pos trivial, h4 _ (by omega)]
    rfl

end Go.Proofs.Ytpdcdajccfccbaa.Pure

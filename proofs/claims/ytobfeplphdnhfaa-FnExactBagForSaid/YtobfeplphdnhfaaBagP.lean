/- Bags of letters: the laws' own small functions over them, and what BagOk and BagFor of the program and of the reference answer. No condition beyond each theorem's own. -/
import Derived.Test.YtobfeplphdnhfaaSInt
import Derived.Test.YtobfeplphdnhfaaMidFnExactBagFor
namespace Go.Proofs.Ytobfeplphdnhfaa.Bag
open Go.RowKit Go.Proofs.Ytobfeplphdnhfaa.Q Go.Proofs.Ytobfeplphdnhfaa.Std Go.Proofs.YtobfeplphdnhfaaW.PrintWords Go.Proofs.YtobfeplphdnhfaaW.PrintLast
set_option linter.unusedSimpArgs false
set_option linter.unusedVariables false
theorem rdA (l : List S74) (i : Nat) (h : i < l.length) : rd_T74 l (i : Int) = l[i] := by unfold rd_T74; rw [Int.toNat_natCast, getD_lt _ _ _ h]
theorem rdB (l : List S32) (i : Nat) (h : i < l.length) : rd_T32 l (i : Int) = l[i] := by unfold rd_T32; rw [Int.toNat_natCast, getD_lt _ _ _ h]
theorem in_eq (a b c : Int) : impl_in.f a b c = spec_l1In.f a b c := rfl
theorem in_some (a b c : Int) : spec_l1In.f a b c = some (decide (b ≤ a ∧ a ≤ c)) := by
  unfold spec_l1In.f
  by_cases h : a ≥ b
  · rw [if_pos h]; simp; intro _; omega
  · rw [if_neg h]; simp; intro _; omega
/-- how much is left, or too much came -/
theorem szS (l : List S74) (hl : l.length ≤ maxLen) (hs : ∀ y ∈ l, G74 y) (i : Nat) (hi : i ≤ l.length) (c : Int) (h0 : 0 ≤ c) (h1 : c ≤ 1048576) :
    ∃ r, Ev (fun k => laws_szLetterS.l0 k l c (i : Int)) r ∧ (r = -1 ∨ 0 ≤ r) := by
  unfold maxLen at hl
  induction hd : l.length - i generalizing i c with
  | zero =>
    refine ⟨c, (Ev.mk' (1) fun k hk => ?_), .inr h0⟩
    obtain ⟨m, rfl⟩ : ∃ m, k = m + 1 := ⟨k - 1, by omega⟩
    simp only [laws_szLetterS.l0]
    rw [if_neg (by omega)]
  | succ d ih =>
    have hlt : i < l.length := by omega
    have hz : (l[i]).f2.size ≤ 9223372036854775807 := (hs _ (List.getElem_mem hlt)).2.2
    have hw : wrap64 (c - ((l[i]).f2.size : Int)) = c - ((l[i]).f2.size : Int) := wrap_of (by omega) (by omega)
    by_cases hneg : c - ((l[i]).f2.size : Int) < 0
    · refine ⟨-1, (Ev.mk' (1) fun k hk => ?_), .inl rfl⟩
      obtain ⟨m, rfl⟩ : ∃ m, k = m + 1 := ⟨k - 1, by omega⟩
      simp only [laws_szLetterS.l0]
      rw [if_pos (by omega), if_pos (by omega), rdA l i hlt]
      unfold laws_szLetter.f
      rw [hw, if_pos hneg]; rfl
    · obtain ⟨r, hev, hr⟩ := ih (i + 1) (by omega) (c - ((l[i]).f2.size : Int)) (by omega) (by omega) (by omega); obtain ⟨K, hK⟩ := Ev.get hev
      refine ⟨r, (Ev.mk' (K + 1) fun k hk => ?_), hr⟩
      obtain ⟨m, rfl⟩ : ∃ m, k = m + 1 := ⟨k - 1, by omega⟩
      simp only [laws_szLetterS.l0]
      rw [if_pos (by omega), if_pos (by omega), rdA l i hlt]
      unfold laws_szLetter.f
      rw [hw, if_neg hneg, Option.bind_some, if_neg hneg, wrap_succ i (by omega)]
      exact hK m (by omega)
theorem sz (a : Int) (l : List S74) (hl : l.length ≤ maxLen) (hs : ∀ y ∈ l, G74 y) :
    ∃ r, Ev (fun k => laws_szBag.f k a l 1048576) r ∧ (r < 0 ∨ 0 ≤ r ∧ l.length ≤ 1048576) := by
  have hl' := hl
  unfold maxLen at hl'
  have hw : wrap64 (1048576 - (l.length : Int)) = 1048576 - (l.length : Int) := wrap_of (by omega) (by omega)
  by_cases hneg : 1048576 - (l.length : Int) < 0
  · refine ⟨-1, (Ev.mk' (0) fun k _ => ?_), .inl (by omega)⟩
    unfold laws_szBag.f laws_szLetterS.f
    rw [hw, if_pos hneg]; rfl
  · obtain ⟨r, hev, hr⟩ := szS l hl hs 0 (by omega) (1048576 - (l.length : Int)) (by omega) (by omega); obtain ⟨K, hK⟩ := Ev.get hev
    rcases hr with hr | hr
    · refine ⟨-1, (Ev.mk' (K) fun k hk => ?_), .inl (by omega)⟩
      unfold laws_szBag.f laws_szLetterS.f
      rw [hw, if_neg hneg]
      have h2 : laws_szLetterS.l0 k l (1048576 - (l.length : Int)) 0 = some r := hK k hk
      rw [h2, hr]; rfl
    · refine ⟨r, (Ev.mk' (K) fun k hk => ?_), .inr ⟨hr, by omega⟩⟩
      unfold laws_szBag.f laws_szLetterS.f
      rw [hw, if_neg hneg]
      have h2 : laws_szLetterS.l0 k l (1048576 - (l.length : Int)) 0 = some r := hK k hk
      rw [h2, Option.bind_some, if_neg (by omega)]
def cv (x : S74) : S32 := ⟨x.f0, x.f1, x.f2⟩
theorem toS (l : List S74) (hl : l.length ≤ 1048576) : Ev (fun k => laws_toLetterS.f k l) (l.map cv) := by
  have h := down (n := l.length) (P := fun i => Ev (fun k => laws_toLetterS.l0 k l ((l.take i).map cv ++ List.replicate (l.length - i) z32) (i : Int)) (l.map cv)) ?_ ?_
  · obtain ⟨K, hK⟩ := Ev.get h
    refine (Ev.mk' (K) fun k hk => ?_)
    unfold laws_toLetterS.f
    rw [if_pos (by omega), if_pos (by omega)]
    have h2 := hK k hk
    simpa using h2
  · refine (Ev.mk' (1) fun k hk => ?_)
    obtain ⟨m, rfl⟩ : ∃ m, k = m + 1 := ⟨k - 1, by omega⟩
    simp only [laws_toLetterS.l0]
    rw [if_neg (by omega), List.take_length]
    simp
  · rintro i hi hev; obtain ⟨K, hK⟩ := Ev.get hev
    refine (Ev.mk' (K + 1) fun k hk => ?_)
    obtain ⟨m, rfl⟩ : ∃ m, k = m + 1 := ⟨k - 1, by omega⟩
    simp only [laws_toLetterS.l0]
    rw [if_pos (by omega), if_pos (by omega), rdA l i hi]
    unfold laws_toLetter.f
    rw [Option.bind_some, if_pos (by rw [fill_len l cv z32 i (by omega)]; omega), wrap_succ i (by omega)]
    have h2 := hK m (by omega)
    rw [← fill_step l cv z32 i hi] at h2
    exact h2
theorem toB (a : Int) (l : List S74) (hl : l.length ≤ 1048576) : Ev (fun k => laws_toBag.f k a l) (a, l.map cv) := by
  obtain ⟨K, hK⟩ := Ev.get (toS l hl)
  refine (Ev.mk' (K) fun k hk => ?_)
  unfold laws_toBag.f
  have h2 := hK k hk; rw [h2]; rfl
def okL (x : S32) : Bool := decide ((0 ≤ x.f0 ∧ x.f0 ≤ 20) ∧ (0 ≤ x.f1 ∧ x.f1 ≤ 20) ∧ (x.f2.size : Int) ≤ 600)
theorem okL_spec (x : S32) : spec_LetterOk.f x.f0 x.f1 x.f2 = some (okL x) := by
  unfold spec_LetterOk.f okL
  simp only [in_some, Option.bind_some]
  by_cases h1 : 0 ≤ x.f0 ∧ x.f0 ≤ 20
  · by_cases h2 : 0 ≤ x.f1 ∧ x.f1 ≤ 20
    · simp [h1, h2]
    · simp [h1, h2]
  · simp [h1]
theorem okL_impl (x : S32) : impl_LetterOk.f x.f0 x.f1 x.f2 = some (okL x) := by
  rw [← okL_spec]; rfl
theorem specAll (a : Int) (l : List S32) (hl : l.length ≤ 1048576) : Ev (fun k => spec_BagOk.l0 k 0 a l) (l.all okL) := by
  have h := down (n := l.length) (P := fun i => Ev (fun k => spec_BagOk.l0 k (i : Int) a l) ((l.drop i).all okL)) ?_ ?_
  · simpa using h
  · refine (Ev.mk' (1) fun k hk => ?_)
    obtain ⟨m, rfl⟩ : ∃ m, k = m + 1 := ⟨k - 1, by omega⟩
    simp only [spec_BagOk.l0]
    rw [if_neg (by omega)]; simp
  · rintro i hi hev; obtain ⟨K, hK⟩ := Ev.get hev
    refine (Ev.mk' (K + 1) fun k hk => ?_)
    obtain ⟨m, rfl⟩ : ∃ m, k = m + 1 := ⟨k - 1, by omega⟩
    simp only [spec_BagOk.l0]
    rw [if_pos (by omega), if_pos (by omega), rdB l i hi, okL_spec, Option.bind_some, drop_cons l i hi, List.all_cons, wrap_succ i (by omega)]
    have h2 := hK m (by omega)
    cases hb : okL l[i] with
    | true => rw [if_pos rfl, Bool.true_and]; exact h2
    | false => rw [if_neg (by simp), Bool.false_and]
def okB (a : Int) (l : List S32) : Bool := decide ((1 ≤ a ∧ a ≤ 64) ∧ (l.length : Int) ≤ a) && l.all okL
theorem specOk (a : Int) (l : List S32) (hl : l.length ≤ 1048576) : Ev (fun k => spec_BagOk.f k a l) (okB a l) := by
  obtain ⟨K, hK⟩ := Ev.get (specAll a l hl)
  refine (Ev.mk' (K + 1) fun k hk => ?_)
  obtain ⟨m, rfl⟩ : ∃ m, k = m + 1 := ⟨k - 1, by omega⟩
  unfold spec_BagOk.f okB
  rw [in_some, Option.bind_some]
  simp only [spec_BagOk.j0]
  by_cases h1 : 1 ≤ a ∧ a ≤ 64
  · by_cases h2 : (l.length : Int) ≤ a
    · rw [if_pos (by simpa using h1), if_neg (by simpa using h2)]
      have h3 := hK m (by omega)
      simpa [h1, h2] using h3
    · rw [if_pos (by simpa using h1), if_pos (by simp; omega)]
      simp [h2]
  · rw [if_neg (by simpa using h1)]
    simp [h1]
theorem implAll (a : Int) (l : List S32) (hl : l.length ≤ 1048576) : Ev (fun k => impl_BagOk.f k a l) (okB a l) := by
  have h := down (n := l.length) (P := fun i => Ev (fun k => impl_BagOk.l0 k l (l.length : Int) (i : Int) a l) (decide ((1 ≤ a ∧ a ≤ 64) ∧ (l.length : Int) ≤ a) && (l.drop i).all okL)) ?_ ?_
  · obtain ⟨K, hK⟩ := Ev.get h
    refine (Ev.mk' (K) fun k hk => ?_)
    have h2 := hK k hk
    simpa [impl_BagOk.f, okB] using h2
  · refine (Ev.mk' (1) fun k hk => ?_)
    obtain ⟨m, rfl⟩ : ∃ m, k = m + 1 := ⟨k - 1, by omega⟩
    simp only [impl_BagOk.l0]
    rw [if_neg (by omega), in_eq, in_some, Option.bind_some]
    by_cases h1 : 1 ≤ a ∧ a ≤ 64
    · simp [h1]
    · simp [h1]
  · rintro i hi hev; obtain ⟨K, hK⟩ := Ev.get hev
    refine (Ev.mk' (K + 1) fun k hk => ?_)
    obtain ⟨m, rfl⟩ : ∃ m, k = m + 1 := ⟨k - 1, by omega⟩
    simp only [impl_BagOk.l0]
    rw [if_pos (by omega), if_pos (by omega), if_pos (by omega), rdB l i hi, okL_impl, Option.bind_some, drop_cons l i hi, List.all_cons, wrap_succ i (by omega)]
    have h2 := hK m (by omega)
    cases hb : okL l[i] with
    | true => rw [if_pos rfl, Bool.true_and]; exact h2
    | false => rw [if_neg (by simp), Bool.false_and, Bool.and_false]
theorem eqL (x : S32) : laws_eqLetter.f x.f0 x.f1 x.f2 x.f0 x.f1 x.f2 = some true := by
  unfold laws_eqLetter.f
  rw [if_pos rfl, if_pos rfl, if_pos rfl]
theorem eqS (l : List S32) (hl : l.length ≤ 1048576) : Ev (fun k => laws_eqLetterS.f k l l) true := by
  have h := down (n := l.length) (P := fun i => Ev (fun k => laws_eqLetterS.l0 k l l (i : Int)) true) ?_ ?_
  · obtain ⟨K, hK⟩ := Ev.get h
    refine (Ev.mk' (K) fun k hk => ?_)
    unfold laws_eqLetterS.f
    rw [if_pos rfl]
    exact hK k hk
  · refine (Ev.mk' (1) fun k hk => ?_)
    obtain ⟨m, rfl⟩ : ∃ m, k = m + 1 := ⟨k - 1, by omega⟩
    simp only [laws_eqLetterS.l0]
    rw [if_neg (by omega)]
  · rintro i hi hev; obtain ⟨K, hK⟩ := Ev.get hev
    refine (Ev.mk' (K + 1) fun k hk => ?_)
    obtain ⟨m, rfl⟩ : ∃ m, k = m + 1 := ⟨k - 1, by omega⟩
    simp only [laws_eqLetterS.l0]
    rw [if_pos (by omega), if_pos (by omega), if_pos (by omega), rdB l i hi, eqL, Option.bind_some, if_pos rfl, wrap_succ i (by omega)]
    exact hK m (by omega)

theorem copied_int (l : List Int) (h : l.length ≤ 1048576) : impl_copied_int.f l = some l := by
  unfold impl_copied_int.f
  rw [if_pos (by omega)]
theorem copied_letter (l : List S32) (h : l.length ≤ 1048576) : impl_Letter.f l = some l := by
  unfold impl_Letter.f
  rw [if_pos (by omega)]
/-- the places from i on, behind those that are there -/
def placesFrom (node : Int) (l : List S32) (i : Nat) (acc : List Int) : List Int := acc ++ ((List.range' i (l.length - i)).filter fun (j : Nat) => decide ((rd_T32 l (j : Int)).f1 = node)).map fun (j : Nat) => (j : Int)
theorem placesFrom_end (node : Int) (l : List S32) (acc : List Int) : placesFrom node l l.length acc = acc := by simp [placesFrom]
theorem placesFrom_yes (node : Int) (l : List S32) (i : Nat) (h : i < l.length) (acc : List Int) (hy : (rd_T32 l (i : Int)).f1 = node) : placesFrom node l i acc = placesFrom node l (i + 1) (acc ++ [(i : Int)]) := by
  unfold placesFrom
  rw [show l.length - i = (l.length - (i + 1)) + 1 by omega, List.range'_succ, List.filter_cons, if_pos (by simpa using hy), List.map_cons, List.append_assoc]
  rfl
theorem placesFrom_no (node : Int) (l : List S32) (i : Nat) (h : i < l.length) (acc : List Int) (hy : ¬ (rd_T32 l (i : Int)).f1 = node) : placesFrom node l i acc = placesFrom node l (i + 1) acc := by
  unfold placesFrom
  rw [show l.length - i = (l.length - (i + 1)) + 1 by omega, List.range'_succ, List.filter_cons, if_neg (by simpa using hy)]
theorem placesFrom_len (node : Int) (l : List S32) (i : Nat) (acc : List Int) : (placesFrom node l i acc).length ≤ acc.length + (l.length - i) := by
  unfold placesFrom
  rw [List.length_append, List.length_map]
  have := List.length_filter_le (fun j : Nat => decide ((rd_T32 l (j : Int)).f1 = node)) (List.range' i (l.length - i))
  rw [List.length_range'] at this
  omega
def places (a : Int) (l : List S32) (node : Int) : List Int := if okB a l = true then placesFrom node l 0 [] else []
theorem specForL (a : Int) (l : List S32) (node : Int) (hl : l.length ≤ 1048576) : ∀ d i acc, i ≤ l.length → l.length - i = d → acc.length ≤ i → Ev (fun k => spec_BagFor.l0 k node acc (i : Int) a l) (placesFrom node l i acc) := by
  intro d
  induction d with
  | zero =>
    intro i acc hi hd ha
    refine Ev.mk' 1 fun k hk => ?_
    obtain ⟨m, rfl⟩ : ∃ m, k = m + 1 := ⟨k - 1, by omega⟩
    obtain rfl : i = l.length := by omega
    simp only [spec_BagFor.l0]
    rw [if_neg (by omega), placesFrom_end]
  | succ d ih =>
    intro i acc hi hd ha
    have hlt : i < l.length := by omega
    by_cases hy : (rd_T32 l (i : Int)).f1 = node
    · obtain ⟨K, hK⟩ := Ev.get (ih (i + 1) (acc ++ [(i : Int)]) (by omega) (by omega) (by simp; omega))
      refine Ev.mk' (K + 1) fun k hk => ?_
      obtain ⟨m, rfl⟩ : ∃ m, k = m + 1 := ⟨k - 1, by omega⟩
      simp only [spec_BagFor.l0]
      rw [if_pos (by omega), if_pos (by omega), if_pos hy, if_pos (by omega), wrap_succ i (by omega), hK m (by omega), placesFrom_yes node l i hlt acc hy]
    · obtain ⟨K, hK⟩ := Ev.get (ih (i + 1) acc (by omega) (by omega) (by omega))
      refine Ev.mk' (K + 1) fun k hk => ?_
      obtain ⟨m, rfl⟩ : ∃ m, k = m + 1 := ⟨k - 1, by omega⟩
      simp only [spec_BagFor.l0]
      rw [if_pos (by omega), if_pos (by omega), if_neg hy, wrap_succ i (by omega), hK m (by omega), placesFrom_no node l i hlt acc hy]
theorem implForL (l : List S32) (node : Int) (hl : l.length ≤ 1048576) : ∀ d i acc, i ≤ l.length → l.length - i = d → acc.length ≤ i → Ev (fun k => impl_BagFor.l0 k node acc l (l.length : Int) (i : Int)) (placesFrom node l i acc) := by
  intro d
  induction d with
  | zero =>
    intro i acc hi hd ha
    refine Ev.mk' 1 fun k hk => ?_
    obtain ⟨m, rfl⟩ : ∃ m, k = m + 1 := ⟨k - 1, by omega⟩
    obtain rfl : i = l.length := by omega
    simp only [impl_BagFor.l0]
    rw [if_neg (by omega), placesFrom_end, copied_int acc (by omega)]
    rfl
  | succ d ih =>
    intro i acc hi hd ha
    have hlt : i < l.length := by omega
    by_cases hy : (rd_T32 l (i : Int)).f1 = node
    · obtain ⟨K, hK⟩ := Ev.get (ih (i + 1) (acc ++ [(i : Int)]) (by omega) (by omega) (by simp; omega))
      refine Ev.mk' (K + 1) fun k hk => ?_
      obtain ⟨m, rfl⟩ : ∃ m, k = m + 1 := ⟨k - 1, by omega⟩
      simp only [impl_BagFor.l0]
      rw [if_pos (by omega), if_pos (by omega), if_pos (by omega), if_pos hy, if_pos (by omega), wrap_succ i (by omega), hK m (by omega), placesFrom_yes node l i hlt acc hy]
    · obtain ⟨K, hK⟩ := Ev.get (ih (i + 1) acc (by omega) (by omega) (by omega))
      refine Ev.mk' (K + 1) fun k hk => ?_
      obtain ⟨m, rfl⟩ : ∃ m, k = m + 1 := ⟨k - 1, by omega⟩
      simp only [impl_BagFor.l0]
      rw [if_pos (by omega), if_pos (by omega), if_pos (by omega), if_neg hy, wrap_succ i (by omega), hK m (by omega), placesFrom_no node l i hlt acc hy]
theorem specFor (a : Int) (l : List S32) (node : Int) (hl : l.length ≤ 1048576) : Ev (fun k => spec_BagFor.f k a l node) (places a l node) := by
  obtain ⟨K1, h1⟩ := Ev.get (specOk a l hl)
  obtain ⟨K2, h2⟩ := Ev.get (specForL a l node hl l.length 0 [] (by omega) (by omega) (by simp))
  refine Ev.mk' (K1 + K2) fun k hk => ?_
  unfold spec_BagFor.f places
  rw [Option.bind_some, h1 k (by omega), Option.bind_some]
  cases okB a l with
  | true => exact h2 k (by omega)
  | false => rfl
theorem implFor (a : Int) (l : List S32) (node : Int) (hl : l.length ≤ 1048576) : Ev (fun k => impl_BagFor.f k a l node) (places a l node) := by
  obtain ⟨K1, h1⟩ := Ev.get (implAll a l hl)
  obtain ⟨K2, h2⟩ := Ev.get (implForL l node hl l.length 0 [] (by omega) (by omega) (by simp))
  refine Ev.mk' (K1 + K2) fun k hk => ?_
  unfold impl_BagFor.f places
  rw [h1 k (by omega), Option.bind_some]
  cases okB a l with
  | true => exact h2 k (by omega)
  | false => rfl
theorem places_len (a : Int) (l : List S32) (node : Int) : (places a l node).length ≤ l.length := by
  unfold places
  split
  · have := placesFrom_len node l 0 []; simpa using this
  · simp
theorem strNum_size (x : Int) : (strOfNums [x]).size = 1 := rfl
theorem markTextL (n : Nat) : ∀ (x : ByteArray), x.size + n ≤ 4611686018427387904 → ∃ s, Ev (fun k => laws_markText.l0 k (n : Int) x) s := by
  induction n using Nat.strongRecOn with
  | ind n ih =>
    intro x hx
    by_cases h0 : n = 0
    · subst h0
      refine ⟨(⟨#[109]⟩ : ByteArray) ++ x, Ev.mk' 1 fun k hk => ?_⟩
      obtain ⟨m, rfl⟩ : ∃ m, k = m + 1 := ⟨k - 1, by omega⟩
      simp only [laws_markText.l0]
      rw [if_neg (by simp), if_pos (by omega)]
    · have hd : Int.tdiv (n : Int) 10 = ((n / 10 : Nat) : Int) := by
        rw [Int.tdiv_eq_ediv_of_nonneg (by omega)]; omega
      obtain ⟨s, hs⟩ := ih (n / 10) (by omega) (strOfNums [(wrap64 (48 + (Int.tmod (n : Int) 10))) % 256] ++ x) (by rw [ByteArray.size_append, strNum_size]; omega)
      obtain ⟨K, hK⟩ := Ev.get hs
      refine ⟨s, Ev.mk' (K + 1) fun k hk => ?_⟩
      obtain ⟨m, rfl⟩ : ∃ m, k = m + 1 := ⟨k - 1, by omega⟩
      simp only [laws_markText.l0]
      rw [if_pos (by omega), Option.bind_some, if_pos (by rw [strNum_size]; omega), hd, wrap_of (by omega) (by omega)]
      exact hK m (by omega)
theorem markText_ev (n : Nat) (h : n ≤ 4611686018427387904) : ∃ s, Ev (fun k => laws_markText.f k (n : Int)) s := by
  by_cases h0 : n = 0
  · subst h0
    exact ⟨_, Ev.mk' 0 fun k hk => by unfold laws_markText.f; rw [if_pos (by simp)]⟩
  · obtain ⟨s, hs⟩ := markTextL n ⟨#[]⟩ (by show 0 + n ≤ _; omega)
    obtain ⟨K, hK⟩ := Ev.get hs
    refine ⟨s, Ev.mk' K fun k hk => ?_⟩
    unfold laws_markText.f
    rw [if_neg (by omega)]
    exact hK k hk
/-- the letters are written anew; what they were is gone, but their number is not -/
theorem markL (n : Nat) (hn : n ≤ 1048576) : ∀ d i (l : List S32) (c : Nat), l.length = n → i ≤ n → n - i = d → c ≤ 1 + 3 * i → ∃ (c' : Nat) (l' : List S32), Ev (fun k => laws_markLetterS.l0 k l (c : Int) (i : Int)) ((c' : Int) , l') := by
  intro d
  induction d with
  | zero =>
    intro i l c hl hi hd hc
    refine ⟨c, l, Ev.mk' 1 fun k hk => ?_⟩
    obtain ⟨m, rfl⟩ : ∃ m, k = m + 1 := ⟨k - 1, by omega⟩
    simp only [laws_markLetterS.l0]
    rw [if_neg (by omega)]
  | succ d ih =>
    intro i l c hl hi hd hc
    obtain ⟨s, hs⟩ := markText_ev (c + 2) (by omega)
    obtain ⟨K1, h1⟩ := Ev.get hs
    obtain ⟨c', l', he⟩ := ih (i + 1) (((l.set i ⟨(c : Int), (rd_T32 l i).f1, (rd_T32 l i).f2⟩).set i ⟨(rd_T32 (l.set i ⟨(c : Int), (rd_T32 l i).f1, (rd_T32 l i).f2⟩) i).f0, ((c + 1 : Nat) : Int), (rd_T32 (l.set i ⟨(c : Int), (rd_T32 l i).f1, (rd_T32 l i).f2⟩) i).f2⟩).set i ⟨(rd_T32 ((l.set i ⟨(c : Int), (rd_T32 l i).f1, (rd_T32 l i).f2⟩).set i ⟨(rd_T32 (l.set i ⟨(c : Int), (rd_T32 l i).f1, (rd_T32 l i).f2⟩) i).f0, ((c + 1 : Nat) : Int), (rd_T32 (l.set i ⟨(c : Int), (rd_T32 l i).f1, (rd_T32 l i).f2⟩) i).f2⟩) i).f0, (rd_T32 ((l.set i ⟨(c : Int), (rd_T32 l i).f1, (rd_T32 l i).f2⟩).set i ⟨(rd_T32 (l.set i ⟨(c : Int), (rd_T32 l i).f1, (rd_T32 l i).f2⟩) i).f0, ((c + 1 : Nat) : Int), (rd_T32 (l.set i ⟨(c : Int), (rd_T32 l i).f1, (rd_T32 l i).f2⟩) i).f2⟩) i).f1, s⟩) (c + 3) (by simp only [List.length_set]; exact hl) (by omega) (by omega) (by omega)
    obtain ⟨K2, h2⟩ := Ev.get he
    refine ⟨c', l', Ev.mk' (K1 + K2 + 1) fun k hk => ?_⟩
    obtain ⟨m, rfl⟩ : ∃ m, k = m + 1 := ⟨k - 1, by omega⟩
    simp only [laws_markLetterS.l0]
    rw [if_pos (by omega), if_pos (by omega), Option.bind_some, Option.bind_some, wrap_succ c (by omega), wrap_succ (c + 1) (by omega), wrap_succ (c + 1 + 1) (by omega), wrap_succ i (by omega), h1 m (by omega), Option.bind_some]
    simp only [Int.toNat_natCast]
    exact h2 m (by omega)
theorem mark_ev (a : Int) (l : List S32) (hl : l.length ≤ 1048576) : ∃ (c' : Nat) (l' : List S32), Ev (fun k => laws_markBag.f k a l 1) ((c' : Int) , l') := by
  obtain ⟨c', l', he⟩ := markL l.length hl l.length 0 l 1 rfl (by omega) (by omega) (by omega)
  obtain ⟨K, hK⟩ := Ev.get he
  refine ⟨c', l', Ev.mk' K fun k hk => ?_⟩
  unfold laws_markBag.f laws_markLetterS.f
  have h2 : laws_markLetterS.l0 k l 1 0 = some ((c' : Int), l') := hK k hk
  rw [h2]; rfl
theorem eqBag_refl (a : Int) (l : List S32) (hl : l.length ≤ 1048576) : Ev (fun k => laws_eqBag.f k a l a l) true := by
  obtain ⟨K, hK⟩ := Ev.get (eqS l hl)
  refine Ev.mk' K fun k hk => ?_
  unfold laws_eqBag.f
  rw [if_pos rfl, hK k hk]; rfl
end Go.Proofs.Ytobfeplphdnhfaa.Bag

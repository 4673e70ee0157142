/- What ClientOk of the program and of the reference answer: one bool of the client's numbers. No condition but each theorem's own. -/
import Derived.Test.YtpdcdajccfccbaaSInt
namespace Go.Proofs.Ytpdcdajccfccbaa.Pure
open Go.RowKit Go.Proofs.Ytpdcdajccfccbaa.Q Go.Proofs.Ytpdcdajccfccbaa.Std Go.Proofs.YtpdcdajccfccbaaW.PrintWords Go.Proofs.YtpdcdajccfccbaaW.PrintLast
set_option linter.unusedSimpArgs false
set_option linter.unusedVariables false
theorem cin_eq (a b c : Int) : impl_in.f a b c = spec_l1In.f a b c := rfl
theorem cin (a b c : Int) : spec_l1In.f a b c = some (decide (b ≤ a ∧ a ≤ c)) := by
  unfold spec_l1In.f
  by_cases h : a ≥ b
  · rw [if_pos h]; simp; intro _; omega
  · rw [if_neg h]; simp; intro _; omega
/-- the acks from place i on are ascending numbers of witnesses -/
def ackOk (many : Int) (l : List Int) (i : Nat) : Bool := (List.range' i (l.length - i)).all fun j => decide (1 ≤ rd l j ∧ rd l j ≤ many) && (decide (j = 0) || decide (rd l ((j : Int) - 1) < rd l j))
theorem ackOk_end (many : Int) (l : List Int) : ackOk many l l.length = true := by unfold ackOk; simp
theorem ackOk_step (many : Int) (l : List Int) (i : Nat) (h : i < l.length) :
    ackOk many l i = ((decide (1 ≤ rd l i ∧ rd l i ≤ many) && (decide (i = 0) || decide (rd l ((i : Int) - 1) < rd l i))) && ackOk many l (i + 1)) := by
  unfold ackOk
  rw [show l.length - i = (l.length - (i + 1)) + 1 by omega, List.range'_succ, List.all_cons]
theorem spec_loop (a0 a1 a2 a3 a4 a5 a6 a7 a8 : Int) (l : List Int) (p0 p1 p2 p3 p4 : Int) (hl : l.length ≤ 1048576) :
    Ev (fun k => spec_ClientOk.l0 k 0 a0 a1 a2 a3 a4 a5 a6 a7 a8 l p0 p1 p2 p3 p4) (ackOk a1 l 0) := by
  have h := down (n := l.length) (P := fun i => Ev (fun k => spec_ClientOk.l0 k (i : Int) a0 a1 a2 a3 a4 a5 a6 a7 a8 l p0 p1 p2 p3 p4) (ackOk a1 l i)) ?_ ?_
  · exact h
  · refine Ev.mk' 1 fun k hk => ?_
    obtain ⟨m, rfl⟩ : ∃ m, k = m + 1 := ⟨k - 1, by omega⟩
    simp only [spec_ClientOk.l0]
    rw [if_neg (by omega), ackOk_end]
  · rintro i hi hev
    obtain ⟨K, hK⟩ := Ev.get hev
    refine Ev.mk' (K + 1) fun k hk => ?_
    obtain ⟨m, rfl⟩ : ∃ m, k = m + 1 := ⟨k - 1, by omega⟩
    have h2 := hK m (by omega)
    simp only [spec_ClientOk.l0]
    rw [if_pos (by omega), if_pos (by omega), cin, Option.bind_some, ackOk_step a1 l i hi, wrap_succ i (by omega)]
    by_cases h1 : 1 ≤ rd l i ∧ rd l i ≤ a1
    · rw [if_pos (by simpa using h1)]
      by_cases h3 : i = 0
      · subst h3
        rw [if_neg (by simp), h2, decide_eq_true h1]; simp
      · rw [wrap_of (by omega) (by omega), if_pos (by omega), if_pos (by omega), if_pos (by omega)]
        by_cases h4 : rd l ((i : Int) - 1) ≥ rd l i
        · rw [if_pos h4]; simp [h1, h3, Int.not_lt.2 h4]
        · rw [if_neg h4, h2]; simp [h1, h3]; intro _; omega
    · rw [if_neg (by simpa using h1)]; simp [h1]
theorem impl_loop (a0 a1 a2 a3 a4 a5 a6 a7 a8 : Int) (l : List Int) (p0 p1 p2 p3 p4 : Int) (hl : l.length ≤ 1048576) (r : Bool)
    (hr : (if a2 = 0 then (some false) else ((impl_in.f a4 (wrap64 (p0 + 1)) 256).bind fun t124 => (if t124 = true then (some (decide ((l.length : Int) < a0))) else (some false)))) = some r) :
    Ev (fun k => impl_ClientOk.l0 k l (l.length : Int) 0 a0 a1 a2 a3 a4 a5 a6 a7 a8 l p0 p1 p2 p3 p4) (ackOk a1 l 0 && r) := by
  have h := down (n := l.length) (P := fun i => Ev (fun k => impl_ClientOk.l0 k l (l.length : Int) (i : Int) a0 a1 a2 a3 a4 a5 a6 a7 a8 l p0 p1 p2 p3 p4) (ackOk a1 l i && r)) ?_ ?_
  · exact h
  · refine Ev.mk' 1 fun k hk => ?_
    obtain ⟨m, rfl⟩ : ∃ m, k = m + 1 := ⟨k - 1, by omega⟩
    simp only [impl_ClientOk.l0]
    rw [if_neg (by omega), ackOk_end, Bool.true_and]
    exact hr
  · rintro i hi hev
    obtain ⟨K, hK⟩ := Ev.get hev
    refine Ev.mk' (K + 1) fun k hk => ?_
    obtain ⟨m, rfl⟩ : ∃ m, k = m + 1 := ⟨k - 1, by omega⟩
    have h2 := hK m (by omega)
    simp only [impl_ClientOk.l0]
    rw [if_pos (by omega), if_pos (by omega), if_pos (by omega), cin_eq, cin, Option.bind_some, ackOk_step a1 l i hi, wrap_succ i (by omega)]
    by_cases h1 : 1 ≤ rd l i ∧ rd l i ≤ a1
    · rw [if_pos (by simpa using h1)]
      by_cases h3 : i = 0
      · subst h3
        rw [if_neg (by simp), h2, decide_eq_true h1]; simp
      · rw [wrap_of (by omega) (by omega), if_pos (by omega), if_pos (by omega), if_pos (by omega)]
        by_cases h4 : rd l ((i : Int) - 1) ≥ rd l i
        · rw [if_pos h4]; simp [h1, h3, Int.not_lt.2 h4]
        · rw [if_neg h4, h2]
          have h5 : rd l ((i : Int) - 1) < rd l i := by omega
          simp [h1, h3, h5]
    · rw [if_neg (by simpa using h1)]; simp [h1]
def zero5 (a b c d e : Int) : Bool := (a == 0 && ((b == 0 && (c == 0 && (d == 0 && (e == 0))))))
def pins (p0 p1 p2 p3 p4 : Int) : Bool := decide (1 ≤ p0 ∧ p0 ≤ 256) || zero5 p0 p1 p2 p3 p4
/-- the whole answer -/
def cliOk (a0 a1 a2 a3 a4 a5 a6 a7 a8 : Int) (l : List Int) (p0 p1 p2 p3 p4 : Int) : Bool :=
  decide ((1 ≤ a1 ∧ a1 ≤ 7) ∧ (1 ≤ a0 ∧ a0 ≤ a1) ∧ a1 < 2 * a0 ∧ (0 ≤ a2 ∧ a2 ≤ 1000000)) && (pins p0 p1 p2 p3 p4 &&
    (if a3 = 0 ∨ a3 = 1 then zero5 a4 a5 a6 a7 a8 && (decide (l.length = 0) && decide (a3 = 0 ∨ a2 ≠ 0))
     else if a3 = 2 then decide (a2 ≠ 0 ∧ (wrap64 (p0 + 1) ≤ a4 ∧ a4 ≤ 256) ∧ (l.length : Int) < a0) && ackOk a1 l 0 else false))
theorem pins_spec (p0 p1 p2 p3 p4 : Int) : spec_l10Pins.f p0 p1 p2 p3 p4 = some (pins p0 p1 p2 p3 p4) := by
  unfold spec_l10Pins.f pins zero5
  rw [cin, Option.bind_some]
  by_cases h : 1 ≤ p0 ∧ p0 ≤ 256
  · simp [h]
  · rw [if_neg (by simpa using h)]; simp [h]
theorem spec_cli (a0 a1 a2 a3 a4 a5 a6 a7 a8 : Int) (l : List Int) (p0 p1 p2 p3 p4 : Int) (hl : l.length ≤ 1048576) :
    Ev (fun k => spec_ClientOk.f k a0 a1 a2 a3 a4 a5 a6 a7 a8 l p0 p1 p2 p3 p4) (cliOk a0 a1 a2 a3 a4 a5 a6 a7 a8 l p0 p1 p2 p3 p4) := by
  obtain ⟨K, hK⟩ := Ev.get (spec_loop a0 a1 a2 a3 a4 a5 a6 a7 a8 l p0 p1 p2 p3 p4 hl)
  refine Ev.mk' (K + 4) fun k hk => ?_
  obtain ⟨m, rfl⟩ : ∃ m, k = m + 4 := ⟨k - 4, by omega⟩
  have h0 := hK m (by omega)
  unfold spec_ClientOk.f cliOk
  rw [cin, Option.bind_some]
  by_cases c1 : 1 ≤ a1 ∧ a1 ≤ 7
  · rw [if_pos (by simpa using c1), cin, Option.bind_some]
    by_cases c2 : 1 ≤ a0 ∧ a0 ≤ a1
    · rw [if_pos (by simpa using c2), wrap_of (by omega) (by omega)]
      simp only [spec_ClientOk.j0, cin, pins_spec, Option.bind_some]
      by_cases c3 : 2 * a0 ≤ a1
      · rw [if_pos (by simpa using c3)]; simp [c1, c2, Int.not_lt.2 c3]
      · rw [if_neg (by simpa using c3)]
        have c3' : a1 < 2 * a0 := by omega
        by_cases c4 : 0 ≤ a2 ∧ a2 ≤ 1000000
        · rw [if_pos (by simpa using c4)]
          simp only [spec_ClientOk.j1]
          cases hp : pins p0 p1 p2 p3 p4 with
          | false => simp
          | true =>
            simp only [Bool.not_true, c1, c2, c3', c4, and_self, decide_true, Bool.true_and]
            rw [if_neg (by simp)]
            simp only [spec_ClientOk.j2, spec_ClientOk.j3, cin, Option.bind_some, h0]
            have hz : (a4 == 0 && ((a5 == 0 && (a6 == 0 && (a7 == 0 && (a8 == 0)))))) = zero5 a4 a5 a6 a7 a8 := rfl
            simp only [hz]
            have q1 : (a2 < 1) = (a2 = 0) := propext ⟨by omega, by omega⟩
            have q2 : (a2 ≥ 1) = (¬ a2 = 0) := propext ⟨by omega, by omega⟩
            have q0 : (a2 ≥ 0) = True := propext ⟨fun _ => trivial, fun _ => by omega⟩
            generalize zero5 a4 a5 a6 a7 a8 = Z
            generalize ackOk a1 l 0 = Y
            generalize wrap64 (p0 + 1) = w1
            by_cases d0 : a3 = 0
            · subst d0; cases Z <;> by_cases e : l.length = 0 <;> simp [e, q0]
            · by_cases d1 : a3 = 1
              · subst d1; cases Z <;> by_cases e : l.length = 0 <;> simp [e, q2]
              · by_cases d2 : a3 = 2
                · subst d2
                  by_cases e1 : a2 = 0
                  · simp [q1, e1]
                  · by_cases e2 : w1 ≤ a4 ∧ a4 ≤ 256
                    · by_cases e3 : (l.length : Int) < a0
                      · simp [q1, e1, e2, e3] <;> omega
                      · simp [q1, e1, e2, e3] <;> omega
                    · simp [q1, e1, e2]
                · simp [d0, d1, d2]
        · rw [if_neg (by simpa using c4)]
          simp only [spec_ClientOk.j1]
          simp [c4]
    · rw [if_neg (by simpa using c2)]
      simp only [spec_ClientOk.j0]
      simp [c2]
  · rw [if_neg (by simpa using c1)]
    simp only [spec_ClientOk.j0]
    simp [c1]
theorem impl_cli (a0 a1 a2 a3 a4 a5 a6 a7 a8 : Int) (l : List Int) (p0 p1 p2 p3 p4 : Int) (hl : l.length ≤ 1048576) :
    Ev (fun k => impl_ClientOk.f k a0 a1 a2 a3 a4 a5 a6 a7 a8 l p0 p1 p2 p3 p4) (cliOk a0 a1 a2 a3 a4 a5 a6 a7 a8 l p0 p1 p2 p3 p4) := by
  obtain ⟨r, hr⟩ : ∃ r, (if a2 = 0 then (some false) else ((impl_in.f a4 (wrap64 (p0 + 1)) 256).bind fun t124 => (if t124 = true then (some (decide ((l.length : Int) < a0))) else (some false)))) = some r ∧ r = decide (a2 ≠ 0 ∧ (wrap64 (p0 + 1) ≤ a4 ∧ a4 ≤ 256) ∧ (l.length : Int) < a0) := by
    refine ⟨_, ?_, rfl⟩
    rw [cin_eq, cin, Option.bind_some]
    by_cases e1 : a2 = 0
    · simp [e1]
    · by_cases e2 : wrap64 (p0 + 1) ≤ a4 ∧ a4 ≤ 256
      · rw [if_neg e1, if_pos (by simpa using e2)]; simp [e1, e2]
      · rw [if_neg e1, if_neg (by simpa using e2)]; simp [e2]
  obtain ⟨hr, hr2⟩ := hr
  obtain ⟨K, hK⟩ := Ev.get (impl_loop a0 a1 a2 a3 a4 a5 a6 a7 a8 l p0 p1 p2 p3 p4 hl r hr)
  refine Ev.mk' (K + 4) fun k hk => ?_
  obtain ⟨m, rfl⟩ : ∃ m, k = m + 4 := ⟨k - 4, by omega⟩
  have h0 := hK (m + 2) (by omega)
  unfold impl_ClientOk.f cliOk
  simp only [cin_eq, cin, Option.bind_some]
  by_cases c1 : 1 ≤ a1 ∧ a1 ≤ 7
  · rw [if_pos (by simpa using c1)]
    by_cases c2 : 1 ≤ a0 ∧ a0 ≤ a1
    · rw [if_pos (by simpa using c2), wrap_of (by omega) (by omega)]
      by_cases c3 : 2 * a0 ≤ a1
      · rw [if_pos c3]
        simp only [impl_ClientOk.j0]
        simp [c1, c2, Int.not_lt.2 c3]
      · rw [if_neg c3]
        have c3' : a1 < 2 * a0 := by omega
        by_cases c4 : 0 ≤ a2 ∧ a2 ≤ 1000000
        · rw [if_pos (by simpa using c4)]
          simp only [c1, c2, c3', c4, and_self, decide_true, Bool.true_and]
          have hpin : ∀ b : Bool, pins p0 p1 p2 p3 p4 = (!b) → impl_ClientOk.j0 (m + 4) b a0 a1 a2 a3 a4 a5 a6 a7 a8 l p0 p1 p2 p3 p4 = some (pins p0 p1 p2 p3 p4 &&
    (if a3 = 0 ∨ a3 = 1 then zero5 a4 a5 a6 a7 a8 && (decide (l.length = 0) && decide (a3 = 0 ∨ a2 ≠ 0))
     else if a3 = 2 then decide (a2 ≠ 0 ∧ (wrap64 (p0 + 1) ≤ a4 ∧ a4 ≤ 256) ∧ (l.length : Int) < a0) && ackOk a1 l 0 else false)) := by
            intro b hb
            rw [hb]
            cases b with
            | true => simp only [impl_ClientOk.j0]; simp
            | false =>
              simp only [impl_ClientOk.j0, impl_ClientOk.j1, h0]
              rw [if_neg (by simp)]
              simp only [Bool.not_false, Bool.true_and]
              have hz : (a4 == 0 && ((a5 == 0 && (a6 == 0 && (a7 == 0 && (a8 == 0)))))) = zero5 a4 a5 a6 a7 a8 := rfl
              simp only [hz, hr2]
              generalize zero5 a4 a5 a6 a7 a8 = Z
              generalize ackOk a1 l 0 = Y
              generalize wrap64 (p0 + 1) = w1
              by_cases d0 : a3 = 0
              · subst d0; cases Z <;> by_cases e : l.length = 0 <;> simp [e]
              · by_cases d1 : a3 = 1
                · subst d1; cases Z <;> by_cases e : l.length = 0 <;> by_cases e2 : a2 = 0 <;> simp [e, e2]
                · by_cases d2 : a3 = 2
                  · subst d2; simp [Bool.and_comm]
                  · simp [d0, d1, d2]
          by_cases c5 : (!(p0 == 0) || ((!(p1 == 0) || (!(p2 == 0) || (!(p3 == 0) || (!(p4 == 0))))))) = true
          · rw [if_pos c5]
            have hz : zero5 p0 p1 p2 p3 p4 = false := by
              unfold zero5
              cases h1 : p0 == 0 <;> cases h2 : p1 == 0 <;> cases h3 : p2 == 0 <;> cases h4 : p3 == 0 <;> cases h5 : p4 == 0 <;> simp_all
            exact hpin _ (by unfold pins; rw [hz]; simp)
          · rw [if_neg c5]
            have hz : zero5 p0 p1 p2 p3 p4 = true := by
              unfold zero5
              cases h1 : p0 == 0 <;> cases h2 : p1 == 0 <;> cases h3 : p2 == 0 <;> cases h4 : p3 == 0 <;> cases h5 : p4 == 0 <;> simp_all
            exact hpin _ (by unfold pins; rw [hz]; simp)
        · rw [if_neg (by simpa using c4)]
          simp only [impl_ClientOk.j0]
          simp [c4]
    · rw [if_neg (by simpa using c2)]
      simp only [impl_ClientOk.j0]
      simp [c2]
  · rw [if_neg (by simpa using c1)]
    simp only [impl_ClientOk.j0]
    simp [c1]
end Go.Proofs.Ytpdcdajccfccbaa.Pure

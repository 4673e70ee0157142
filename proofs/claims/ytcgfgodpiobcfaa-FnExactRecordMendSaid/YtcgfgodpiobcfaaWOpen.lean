/- Arguments opened by their types: whatever reads as data of a type has cells that the print's kind of that type tells. No condition beyond each theorem's own. -/
import Derived.ChangeArms
import Derived.DataReads
import Derived.ChangeShapes
import Derived.Test.YtcgfgodpiobcfaaWWords
namespace Go.Proofs.YtcgfgodpiobcfaaW.PrintWords
open Go.ChangeShapes Go.WideShapes

/-- What reads as data of type t has cells of kind d; G says what the reading tells of the value. -/
def Opens (P : Program) (t : TypeId) {α : Type} (d : Kd α) (G : α → Prop) : Prop :=
  ∀ (H : Type) (enc : TypeId × Value → H) (w : World) (base : Nat) (spare : Nat → Bool) (held : Bool) (fuel : Nat) (cs : List Value) (x : DataW H × List MemPlace),
    DataW.trod enc P w base spare held fuel t cs = some x → ∃ y, d.K w y cs ∧ G y
/-- The same for the fields of a struct from the cell off on. -/
def OpensF (P : Program) (fs : List Field) (off total : Nat) {α : Type} (d : Kd α) (G : α → Prop) : Prop :=
  ∀ (H : Type) (enc : TypeId × Value → H) (w : World) (base : Nat) (spare : Nat → Bool) (held : Bool) (fuel : Nat) (cs : List Value), cs.length = total →
    (∀ f ∈ fs, ∃ x, DataW.trod enc P w base spare held fuel f.type ((cs.drop f.offset).take (P.cellsOf f.type)) = some x) → ∃ y, d.K w y (cs.drop off) ∧ G y

theorem add_twice (a : Addr) (m n : Nat) : (a.add m).add n = a.add (m + n) := by
  cases a
  by_cases h1 : m = 0 <;> by_cases h2 : n = 0 <;> simp [Addr.add, h1, h2, Nat.add_assoc]
section
variable {P : Program} {t e : TypeId} {α β : Type}
theorem opens_int {k : IntKind} (ht : P.underlying t = some (.int k)) : Opens P t (Kd.int k) (fun n => (Lit.int k n).wf = true) := by
  intro H enc w base spare held fuel cs x h
  obtain ⟨n, rfl, _, hw⟩ := DataW.trod_int ht h
  exact ⟨n, rfl, hw⟩
theorem opens_bool (ht : P.underlying t = some .bool) : Opens P t Kd.bool (fun _ => True) := by
  intro H enc w base spare held fuel cs x h
  obtain ⟨n, rfl, _⟩ := DataW.trod_bool ht h
  exact ⟨n, rfl, trivial⟩
theorem opens_string (ht : P.underlying t = some .string) : Opens P t Kd.string (fun s => s.size ≤ maxLen) := by
  intro H enc w base spare held fuel cs x h
  obtain ⟨n, rfl, _, hw⟩ := DataW.trod_string ht h
  exact ⟨n, rfl, hw⟩
theorem opens_iso {d : Kd α} {G : α → Prop} (h : Opens P t d G) (f : β → α) (g : α → β) (hg : ∀ a, f (g a) = a) : Opens P t (Kd.iso d f) (fun y => G (f y)) := by
  intro H enc w base spare held fuel cs x hx
  obtain ⟨y, hk, hG⟩ := h H enc w base spare held fuel cs x hx
  refine ⟨g y, ?_, ?_⟩
  · show d.K w (f (g y)) cs
    rw [hg]; exact hk
  · show G (f (g y))
    rw [hg]; exact hG
theorem opens_slice {d : Kd α} {G : α → Prop} (ht : P.underlying t = some (.slice e)) (hc : P.cellsOf e = d.sz) (h : Opens P e d G) (e' : Nat) : Opens P t (Kd.slice e' d) (fun l => l.length ≤ maxLen ∧ ∀ x ∈ l, G x) := by
  intro H enc w base spare held fuel cs x hx
  rcases DataW.trod_slice ht hx with ⟨rfl, _⟩ | ⟨a, len, cap, elems, rest, n, _, rfl, _, _, hl, hm, hlen, hel, _⟩
  · exact ⟨[], ⟨none, 0, rfl, Nat.le_refl _, rfl, Nat.zero_le _, fun h => absurd h (Nat.lt_irrefl _)⟩, Nat.zero_le _, fun _ h => by cases h⟩
  · have ev : ∀ i : Fin len, ∃ y, (∃ c, w.cells? base (a.add (i.val * P.cellsOf e)) (P.cellsOf e) = some c ∧ d.K w y c) ∧ G y := by
      intro i
      have h1 := hel i.val i.isLt
      rw [List.getElem?_eq_getElem (by omega)] at h1
      obtain ⟨c, hc1, hc2⟩ := Option.bind_eq_some_iff.1 h1
      obtain ⟨y, hk, hG⟩ := h H enc w base spare held n c _ hc2
      exact ⟨y, ⟨c, hc1, hk⟩, hG⟩
    have hf : ∀ i : Fin len, (∃ c, w.cells? base (a.add (i.val * P.cellsOf e)) (P.cellsOf e) = some c ∧ d.K w (ev i).choose c) ∧ G (ev i).choose := fun i => (ev i).choose_spec
    have hml : len ≤ 9223372036854775807 := by unfold maxLen at hm; omega
    refine ⟨List.ofFn fun i : Fin len => (ev i).choose, ⟨some a, cap, by rw [List.length_ofFn], by rw [List.length_ofFn]; exact hl, rfl, by rw [List.length_ofFn]; exact hml, fun _ => ⟨a, rfl, ?_⟩⟩, by rw [List.length_ofFn]; unfold maxLen; omega, ?_⟩
    · intro j p hj
      rw [List.getElem?_ofFn] at hj
      split at hj
      · rename_i hjl
        injection hj with hj
        subst hj
        obtain ⟨⟨c, hc1, hk⟩, _⟩ := hf ⟨j, hjl⟩
        obtain ⟨_, hcl, hat⟩ := World.cells?_some hc1
        refine ⟨c, by rw [hcl, hc], hk, fun i u hu => ?_⟩
        have hil : i < P.cellsOf e := by rw [← hcl]; exact (List.getElem?_eq_some_iff.1 hu).1
        have h2 := hat i hil
        rw [hu] at h2
        rw [← h2, ← hc]
        exact congrArg w.cell? (add_twice a (j * P.cellsOf e) i).symm
      · cases hj
    · intro y hy
      rw [List.mem_ofFn] at hy
      obtain ⟨i, rfl⟩ := hy
      exact (hf i).2
theorem opensF_one {f : Field} {off total : Nat} {d : Kd α} {G : α → Prop} (ho : f.offset = off) (ht : off + P.cellsOf f.type = total) (h : Opens P f.type d G) : OpensF P [f] off total d G := by
  intro H enc w base spare held fuel cs hl hx
  obtain ⟨x, hx⟩ := hx f List.mem_cons_self
  rw [ho, List.take_of_length_le (by rw [List.length_drop]; omega)] at hx
  exact h H enc w base spare held fuel _ x hx
theorem opensF_cons {f : Field} {fs : List Field} {off off1 total : Nat} {d : Kd α} {d1 : Kd β} {G : α → Prop} {G1 : β → Prop} (ho : f.offset = off) (ht : off + P.cellsOf f.type = off1) (h : Opens P f.type d G) (h1 : OpensF P fs off1 total d1 G1) : OpensF P (f :: fs) off total (Kd.pair d d1) (fun y => G y.1 ∧ G1 y.2) := by
  intro H enc w base spare held fuel cs hl hx
  obtain ⟨x, hx0⟩ := hx f List.mem_cons_self
  rw [ho] at hx0
  obtain ⟨y, hk, hG⟩ := h H enc w base spare held fuel _ x hx0
  obtain ⟨y1, hk1, hG1⟩ := h1 H enc w base spare held fuel cs hl (fun g hg => hx g (List.mem_cons_of_mem _ hg))
  refine ⟨(y, y1), ⟨_, _, ?_, hk, hk1⟩, hG, hG1⟩
  rw [← ht, ← List.drop_drop, List.take_append_drop]
theorem opens_struct {fs : Array Field} {d : Kd α} {G : α → Prop} (ht : P.underlying t = some (.struct fs)) (h : OpensF P fs.toList 0 (P.cellsOf t) d G) : Opens P t d G := by
  intro H enc w base spare held fuel cs x hx
  obtain ⟨xs, n, _, _, hl, hxs, hf⟩ := DataW.trod_struct ht hx
  have := h H enc w base spare held n cs hl (fun f hm => by
    obtain ⟨i, hi, rfl⟩ := List.getElem_of_mem hm
    have h2 := hf i fs.toList[i] (by simp)
    simp at hi
    rw [List.getElem?_eq_getElem (by omega)] at h2
    exact ⟨_, h2⟩)
  simpa using this
end
end Go.Proofs.YtcgfgodpiobcfaaW.PrintWords

/- Building structs and slices. No condition but each theorem's own. -/
import Derived.Test.YtcgkhljolflenaaGreatVH
namespace Go.Proofs.YtcgkhljolflenaaGreatW.V
open Go

theorem foldl_set : ∀ (vs : List Value) (k off : Nat) (cells : Array Value), off + k + vs.length ≤ cells.size →
    (vs.zipIdx k).foldl (fun cs (p : Value × Nat) => cs.setIfInBounds (off + p.2) p.1) cells = (sp cells.toList (off + k) vs).toArray
  | [], k, off, cells, _ => by simp [sp]
  | v :: vs, k, off, cells, h => by
    simp only [List.length_cons] at h
    simp only [List.zipIdx_cons, List.foldl_cons]
    rw [foldl_set vs (k + 1) off _ (by simp; omega)]
    congr 1
    apply List.ext_getElem?
    intro j
    rw [sp_get (by simp; omega), sp_get (l := cells.toList) (p := off + k) (us := v :: vs) (by simp; omega)]
    simp only [Array.toList_setIfInBounds, List.length_cons]
    by_cases h1 : j < off + k
    · rw [if_pos (show j < off + (k + 1) by omega), if_pos h1, List.getElem?_set_ne (by omega)]
    · rw [if_neg h1]
      by_cases h2 : j = off + k
      · subst h2
        rw [if_pos (by omega), if_pos (by omega), Nat.sub_self, List.getElem?_set_self (by simp; omega)]
        rfl
      · by_cases h3 : j < off + k + (vs.length + 1)
        · rw [if_neg (show ¬ j < off + (k + 1) by omega), if_pos (show j < off + (k + 1) + vs.length by omega), if_pos h3]
          rw [show j - (off + k) = (j - (off + (k + 1))) + 1 by omega, List.getElem?_cons_succ]
        · rw [if_neg (show ¬ j < off + (k + 1) by omega), if_neg (show ¬ j < off + (k + 1) + vs.length by omega), if_neg h3, List.getElem?_set_ne (by omega)]

def fillD (place : Nat → Option (Nat × Nat)) : List D → List (Nat × A) → Option (List D)
  | cs, [] => some cs
  | cs, (i, y) :: rest => match place i with
    | some (off, n) => if (cellsA y).length = n ∧ off + n ≤ cs.length then fillD place (sp cs off (cellsA y)) rest else none
    | none => none

section
variable {P : Program} {x : Ctx} {μ : Mu} {I : Imm} {s : St} {a : Act} {w : World}

theorem fill_spec {L : Lens} (place : Nat → Option (Nat × Nat)) : ∀ {ps : List (Nat × A)} {vs : List (Nat × Value)} {cs ds : List D} {us : Array Value},
    F2 (fun (p : Nat × A) (v : Nat × Value) => p.1 = v.1 ∧ AR w I μ L p.2 v.2) ps vs → F2 (DR w I μ L) cs us.toList → fillD place cs ps = some ds →
    ∃ us', Instr.fill place us vs = some us' ∧ F2 (DR w I μ L) ds us'.toList
  | [], _, cs, ds, us, .nil, h, hf => by simp only [fillD, Option.some.injEq] at hf; subst hf; exact ⟨us, rfl, h⟩
  | (i, y) :: ps, (j, v) :: vs, cs, ds, us, .cons hp hr, h, hf => by
    obtain ⟨rfl, hy⟩ := hp
    simp only [fillD] at hf
    split at hf
    · rename_i off n hpl
      split at hf
      · rename_i hle
        have hc := cellsA_spec hy
        have hl := F2.length hc
        have hlu := F2.length h
        have hvs : v.cells.size = n := by rw [← hle.1, hl]; simp
        have h' := F2.sp h hc off
        have hno : ¬ (v.cells.size ≠ n || off + v.cells.size > us.size) = true := by
          simp at hlu ⊢; omega
        have e := foldl_set v.cells.toList 0 off us (by simp at hlu ⊢; omega)
        obtain ⟨us', h1, h2⟩ := fill_spec place hr (us := (sp us.toList off v.cells.toList).toArray) (by simpa using h') hf
        refine ⟨us', ?_, h2⟩
        simp only [Instr.fill, hpl]
        rw [if_neg (by simpa using hno), ← h1]
        congr 1
        rw [← Array.foldl_toList, Array.toList_zipIdx]
        exact e
      · cases hf
    · cases hf

def evParts (env : Nat → Option E) : List (Nat × Operand) → Option (List (Nat × A))
  | [] => some []
  | (i, z) :: l => match evE env z with
    | some e => match asA e, evParts env l with
      | some y, some r => some ((i, y) :: r)
      | _, _ => none
    | none => none

theorem evParts_spec (h : RelX x μ I s a w) : ∀ {l : List (Nat × Operand)} {r : List (Nat × A)}, evParts s.env l = some r →
    F2 (fun (p : Nat × A) (v : Nat × Value) => p.1 = v.1 ∧ AR w I μ s.L p.2 v.2) r (l.map fun p => (p.1, a.eval p.2))
  | [], r, hr => by simp only [evParts, Option.some.injEq] at hr; subst hr; exact .nil
  | (i, z) :: l, r, hr => by
    simp only [evParts] at hr
    split at hr
    · rename_i e he
      split at hr
      · rename_i y r' hy hr'
        cases hr
        have := evE_spec h he
        rw [asA_spec hy] at this
        exact .cons ⟨rfl, this⟩ (evParts_spec h hr')
      · cases hr
    · cases hr

def zeroD (d : TD) : List D := d.zero.map fun u => .c (.v u)

/-- Where the parts of a struct lie. -/
def placesT (P : Program) : List (Nat × TypeId) → Option (List (Nat × Nat))
  | [] => some []
  | (off, ft) :: l => match td P ft, placesT P l with
    | some d, some r => some ((off, d.size) :: r)
    | _, _ => none

theorem run_places {gs : Array Field} {pl : List (Nat × Nat)} (h : placesT P (gs.toList.map fun f => (f.offset, f.type)) = some pl) :
    (gs.mapM fun f => do pure (f.offset, ← sizeOf f.type) : Sem (Array (Nat × Nat))).run P w = .ok pl.toArray w := by
  rw [Array.mapM_eq_mapM_toList]
  simp only [Sem.run_map]
  have key : ∀ (l : List Field) (pl : List (Nat × Nat)), placesT P (l.map fun f => (f.offset, f.type)) = some pl → (l.mapM fun f => do pure (f.offset, ← sizeOf f.type) : Sem (List (Nat × Nat))).run P w = .ok pl w := by
    intro l
    induction l with
    | nil => intro pl h; simp only [List.map_nil, placesT, Option.some.injEq] at h; subst h; rfl
    | cons f l ih =>
      intro pl h
      simp only [List.map_cons, placesT] at h
      split at h
      · rename_i d r hd hr
        cases h
        simp only [List.mapM_cons, Sem.run_bind, run_sizeOf hd, Result.andThen_ok, Sem.run_pure, ih r hr]
      · cases h
  rw [key _ _ h]
  rfl

theorem go_buildSt (h : RelX x μ I s a w) {o : Oper} {t : TypeId} {ps : Array (Nat × Operand)} (ho : o.op = .build t ps) (hd : ∀ d, o.dst = some d → d < x.n) {d : TD} (ht : td P t = some d) {fs : List (Nat × TypeId)} (hk : d.k = .st fs) (hz : d.zero.all (·.oneCell') = true)
    {pl : List (Nat × Nat)} (hpl : placesT P fs = some pl) {r : List (Nat × A)} (hr : evParts s.env ps.toList = some r) {ds : List D} (hf : fillD (pl[·]?) (zeroD d) r = some ds) {ob : Prop} : Goes P x o a w (s.app o.dst ⟨some (.x (.a ds)), [], false, ob⟩) := by
  obtain ⟨z, hz1, hz2⟩ := run_zeroValue (w := w) ht
  obtain ⟨gs, hgs, rfl⟩ := td_st ht hk
  have h0 : F2 (DR w I μ s.L) (zeroD d) z.cells.toList := by rw [hz1]; exact F2.sc hz
  obtain ⟨us, h1, h2⟩ := fill_spec (fun i => pl[i]?) (evParts_spec h hr) h0 hf
  refine goes_val h hd (e := .x (.a ds)) (v := .agg us) ?_ ⟨us.toList, by simp, h2⟩
  have hp := run_places (w := w) hpl
  simp only [execOp, ho, Instr.build, Sem.run_bind, hz2, Result.andThen_ok, run_underlying hgs, hp, Sem.run_pure]
  have e1 : (ps.map fun (p : Nat × Operand) => (p.1, a.eval p.2)).toList = ps.toList.map fun p => (p.1, a.eval p.2) := by simp
  have e2 : (fun (i : Nat) => pl.toArray[i]?) = fun i => pl[i]? := by funext i; simp
  simp only [e2, e1, h1]
  rfl

theorem go_buildArr (h : RelX x μ I s a w) {o : Oper} {t et : TypeId} {n : Nat} {ps : Array (Nat × Operand)} (ho : o.op = .build t ps) (hd : ∀ d, o.dst = some d → d < x.n) {d de : TD} (ht : td P t = some d) (hk : d.k = .arr n et) (hte : td P et = some de) (hz : d.zero.all (·.oneCell') = true)
    {r : List (Nat × A)} (hr : evParts s.env ps.toList = some r) {ds : List D} (hf : fillD (fun i => some (i * de.size, de.size)) (zeroD d) r = some ds) {ob : Prop} : Goes P x o a w (s.app o.dst ⟨some (.x (.a ds)), [], false, ob⟩) := by
  obtain ⟨z, hz1, hz2⟩ := run_zeroValue (w := w) ht
  have h0 : F2 (DR w I μ s.L) (zeroD d) z.cells.toList := by rw [hz1]; exact F2.sc hz
  obtain ⟨us, h1, h2⟩ := fill_spec (fun i => some (i * de.size, de.size)) (evParts_spec h hr) h0 hf
  refine goes_val h hd (e := .x (.a ds)) (v := .agg us) ?_ ⟨us.toList, by simp, h2⟩
  simp only [execOp, ho, Instr.build, Sem.run_bind, hz2, Result.andThen_ok, run_underlying (td_arr ht hk), run_sizeOf hte, Sem.run_pure]
  have e1 : (ps.map fun (p : Nat × Operand) => (p.1, a.eval p.2)).toList = ps.toList.map fun p => (p.1, a.eval p.2) := by simp
  simp only [e1, h1]
  rfl
end

end Go.Proofs.YtcgkhljolflenaaGreatW.V

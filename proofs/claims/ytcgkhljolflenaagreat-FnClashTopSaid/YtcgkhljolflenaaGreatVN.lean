/- Slices that are built and made, copy, min and max, functions as values. No condition but each theorem's own. -/
import Derived.Test.YtcgkhljolflenaaGreatVM
namespace Go.Proofs.YtcgkhljolflenaaGreatW.V
open Go

section
variable {P : Program} {x : Ctx} {μ : Mu} {I : Imm} {s : St} {a : Act} {w : World}

/-! ### Composite slices -/
/-- Rows set at their places. -/
def setRows (k : Nat) : List (List D) → List (Nat × A) → Option (List (List D))
  | rows, [] => some rows
  | rows, (i, y) :: ps => if i < rows.length ∧ (cellsA y).length = k then setRows k (rows.set i (cellsA y)) ps else none

theorem setRows_spec {k : Nat} : ∀ {ps : List (Nat × A)} {rows rows' : List (List D)}, setRows k rows ps = some rows' → (∀ r ∈ rows, r.length = k) →
    fillD (fun i => some (i * k, k)) rows.flatten ps = some rows'.flatten ∧ (∀ r ∈ rows', r.length = k) ∧ rows'.length = rows.length
  | [], rows, rows', h, hk => by simp only [setRows, Option.some.injEq] at h; subst h; exact ⟨rfl, hk, rfl⟩
  | (i, y) :: ps, rows, rows', h, hk => by
    simp only [setRows] at h
    split at h
    · rename_i hc
      have hk' : ∀ r ∈ rows.set i (cellsA y), r.length = k := fun r hr => by
        rcases List.mem_or_eq_of_mem_set hr with hr | rfl
        · exact hk r hr
        · exact hc.2
      obtain ⟨h1, h2, h3⟩ := setRows_spec h hk'
      refine ⟨?_, h2, by rw [h3]; simp⟩
      have hm : (i + 1) * k ≤ rows.length * k := Nat.mul_le_mul_right _ hc.1
      rw [Nat.add_mul] at hm
      simp only [fillD]
      rw [if_pos ⟨hc.2, by rw [flatten_length hk]; omega⟩, ← h1, flatten_set hk hc.1 hc.2]
      unfold sp
      rw [hc.2]
    · cases h

theorem F2.split {α β : Type} {R : α → β → Prop} : ∀ {as bs : List α} {us : List β}, F2 R (as ++ bs) us → ∃ us1 us2, us = us1 ++ us2 ∧ F2 R as us1 ∧ F2 R bs us2
  | [], _, us, h => ⟨[], us, rfl, .nil, h⟩
  | _ :: _, _, _, .cons h1 h2 => by
    obtain ⟨u1, u2, rfl, a1, a2⟩ := F2.split h2
    exact ⟨_ :: u1, u2, rfl, .cons h1 a1, a2⟩

def delR (rt : Nm → Option Root) (ρs : List Nm) : Nm → Option Root := ρs.foldl (fun g ρ => upd g ρ none) rt

theorem shuts_rt : ∀ (ρs : List Nm) (s : St), s.shuts ρs = { s with rt := delR s.rt ρs }
  | [], s => rfl
  | ρ :: l, s => by simp only [St.shuts, delR, List.foldl_cons]; rw [shuts_rt l]; rfl

def shutR (rt : Nm → Option Root) : List (List D) → Option (List (List C) × List Nm)
  | [] => some ([], [])
  | r :: l => match shutD rt r with
    | some (ys, ρs) => match shutR (delR rt ρs) l with
      | some (zs, σs) => some (ys :: zs, ρs ++ σs)
      | none => none
    | none => none

theorem shuts_append (s : St) (ρs σs : List Nm) : s.shuts (ρs ++ σs) = (s.shuts ρs).shuts σs := by
  induction ρs generalizing s with
  | nil => rfl
  | cons ρ l ih => simp only [List.cons_append, St.shuts]; exact ih _

theorem shuts_L (s : St) (ρs : List Nm) : Kept μ s.L μ (s.shuts ρs).L := by
  induction ρs generalizing s with
  | nil => exact Kept.refl _ _
  | cons ρ l ih =>
    refine Kept.trans (μ' := μ) (L' := St.L { s with rt := upd s.rt ρ none }) (fun σ g hg => ⟨g, hg, fun l' hl' => ⟨l', ?_, Nat.le_refl _, fun _ => rfl⟩⟩) (ih _)
    simp only [St.L, upd] at hl' ⊢
    split at hl'
    · simp at hl'
    · exact hl'

theorem shutR_spec : ∀ {l : List (List D)} {s : St} {I : Imm} {zs : List (List C)} {ρs : List Nm} {us : List Value}, RelX x μ I s a w → shutR s.rt l = some (zs, ρs) → F2 (DR w I μ s.L) l.flatten us →
    ∃ I', RelX x μ I' (s.shuts ρs) a w ∧ (∀ k j, I k j → I' k j) ∧ F2 (CR w I') zs.flatten us
  | [], s, I, zs, ρs, us, h, hs, hl => by
    simp only [shutR, Option.some.injEq, Prod.mk.injEq] at hs
    obtain ⟨rfl, rfl⟩ := hs
    cases hl
    exact ⟨I, h, fun _ _ h => h, .nil⟩
  | r :: l, s, I, zs, ρs, us, h, hs, hl => by
    simp only [shutR] at hs
    split at hs
    · rename_i ys ρs1 h1
      split at hs
      · rename_i zs' σs h2
        cases hs
        simp only [List.flatten_cons] at hl
        obtain ⟨us1, us2, rfl, b1, b2⟩ := F2.split hl
        obtain ⟨I1, c1, c2, c3⟩ := shutD_spec h h1 b1
        rw [← show (s.shuts ρs1).rt = delR s.rt ρs1 by rw [shuts_rt]] at h2
        obtain ⟨I2, d1, d2, d3⟩ := shutR_spec c1 h2 (F2.mono (fun _ _ => DR.mono (fun b o hb => ⟨c2 b o hb, rfl⟩) (shuts_L s ρs1)) b2)
        refine ⟨I2, by rw [shuts_append]; exact d1, fun k j hk => d2 k j (c2 k j hk), ?_⟩
        simp only [List.flatten_cons]
        exact F2.append (F2.mono (fun _ _ => CR.mono fun b o hb => ⟨d2 b o hb, rfl⟩) c3) d3
      · cases hs
    · cases hs

theorem shutD_len : ∀ {l : List D} {rt : Nm → Option Root} {ys : List C} {ρs : List Nm}, shutD rt l = some (ys, ρs) → ys.length = l.length
  | [], rt, ys, ρs, h => by simp only [shutD, Option.some.injEq, Prod.mk.injEq] at h; rw [← h.1]; rfl
  | .c y :: l, rt, ys, ρs, h => by
    simp only [shutD] at h
    split at h
    · rename_i ys' ρs' h'; cases h; simp [shutD_len h']
    · cases h
  | .h ρ i n m :: l, rt, ys, ρs, h => by
    simp only [shutD] at h
    split at h
    · rename_i xs ys' ρs' _ h'; cases h; simp [shutD_len h']
    · cases h
  | .p .. :: _, _, _, _, h => by simp [shutD] at h
  | .e .. :: _, _, _, _, h => by simp [shutD] at h

theorem shutR_len : ∀ {l : List (List D)} {rt : Nm → Option Root} {zs : List (List C)} {ρs : List Nm} {k : Nat}, shutR rt l = some (zs, ρs) → (∀ r ∈ l, r.length = k) → zs.length = l.length ∧ ∀ z ∈ zs, z.length = k
  | [], rt, zs, ρs, k, h, _ => by simp only [shutR, Option.some.injEq, Prod.mk.injEq] at h; rw [← h.1]; simp
  | r :: l, rt, zs, ρs, k, h, hk => by
    simp only [shutR] at h
    split at h
    · rename_i ys ρs1 h1
      split at h
      · rename_i zs' σs h2
        cases h
        obtain ⟨e1, e2⟩ := shutR_len h2 fun r hr => hk r (by simp [hr])
        refine ⟨by simp [e1], fun z hz => ?_⟩
        rcases List.mem_cons.1 hz with rfl | hz
        · rw [shutD_len h1]; exact hk r (by simp)
        · exact e2 z hz
      · cases h
    · cases h

theorem run_buildSlice {t e : TypeId} {d de : TD} (ht : td P t = some d) (hk : d.k = .slice e) (hte : td P e = some de) (hzl : de.zero.length = de.size) (hz : de.zero.all (·.oneCell') = true) {L : Lens} {n : Nat} (hn : n * de.size ≤ 16777216)
    {ps : List (Nat × A)} {vs : List (Nat × Value)} (hps : F2 (fun (p : Nat × A) (v : Nat × Value) => p.1 = v.1 ∧ AR w I μ L p.2 v.2) ps vs) {rows : List (List D)} (hr : setRows de.size (List.replicate n (zeroD de)) ps = some rows) :
    ∃ us : Array Value, (Instr.buildSlice t n vs.toArray).run P w = .ok (.slice (some ⟨w.heap.size, 0, none⟩) n n) (w.alloc (.cells us e)) ∧ F2 (DR w I μ L) rows.flatten us.toList := by
  obtain ⟨z, hz1, hz2⟩ := run_zeroValue (w := w) hte
  have hzd : (zeroD de).length = de.size := by simp [zeroD, hzl]
  have hk0 : ∀ r ∈ List.replicate n (zeroD de), r.length = de.size := fun r hr => by rw [(List.mem_replicate.1 hr).2, hzd]
  obtain ⟨h1, h2, h3⟩ := setRows_spec hr hk0
  have hzs : z.cells.size = de.size := by rw [← hzl, ← hz1]; simp
  have hn' : ¬ (16777216 < n * de.size) := by omega
  have done : ∀ za : Array Value, F2 (DR w I μ L) (List.replicate n (zeroD de)).flatten ((Array.range (n * de.size)).map (za[· % za.size]!)).toList → (n * de.size = 0 → za = #[]) → (n * de.size ≠ 0 → za = z.cells) →
      ∃ us : Array Value, (Instr.buildSlice t n vs.toArray).run P w = .ok (.slice (some ⟨w.heap.size, 0, none⟩) n n) (w.alloc (.cells us e)) ∧ F2 (DR w I μ L) rows.flatten us.toList := by
    intro za hzf h0 h0'
    obtain ⟨us, h4, h5⟩ := fill_spec (fun i => some (i * de.size, de.size)) hps hzf h1
    refine ⟨us, ?_, h5⟩
    by_cases hc : n * de.size = 0
    · rw [h0 hc] at h4
      simp only [Instr.buildSlice, Sem.run_bind, run_underlying (td_slice ht hk), Result.andThen_ok, run_sizeOf hte]
      rw [if_neg (by simpa using hn'), if_pos hc]
      simp only [Sem.run_pure, Sem.run_bind, Result.andThen_ok, h4]
      simp [newRow]
    · rw [h0' hc] at h4
      simp only [Instr.buildSlice, Sem.run_bind, run_underlying (td_slice ht hk), Result.andThen_ok, run_sizeOf hte]
      rw [if_neg (by simpa using hn'), if_neg hc]
      simp only [Sem.run_pure, Sem.run_bind, Result.andThen_ok, hz2, h4]
      simp [newRow]
  by_cases h0 : n * de.size = 0
  · refine done #[] ?_ (fun _ => rfl) (fun h => absurd h0 h)
    have : (List.replicate n (zeroD de)).flatten = [] := List.eq_nil_of_length_eq_zero (by rw [flatten_length hk0]; simpa using h0)
    rw [this, h0]
    simpa using F2.nil
  · refine done z.cells ?_ (fun h => absurd h h0) (fun _ => rfl)
    refine F2.of (by rw [flatten_length hk0]; simp) fun j y u hy hu => ?_
    have hs0 : 0 < de.size := Nat.pos_of_ne_zero fun h => h0 (by rw [h]; simp)
    have hj : j < n * de.size := by
      have := (List.getElem?_eq_some_iff.1 hu).1
      simpa using this
    have hm : j % de.size < de.size := Nat.mod_lt _ hs0
    have hq : j / de.size < n := Nat.div_lt_of_lt_mul (by rw [Nat.mul_comm]; exact hj)
    have g := flatten_get hk0 (i := j / de.size) (c := zeroD de) (by rw [List.getElem?_replicate, if_pos hq]) (j % de.size) hm
    rw [show j / de.size * de.size + j % de.size = j by rw [Nat.mul_comm]; exact Nat.div_add_mod j _, hy] at g
    obtain ⟨v, hv, hvr⟩ := F2.get (F2.sc (I := I) (μ := μ) (L := L) (w := w) hz) (j % de.size) y (by rw [g]; rfl)
    simp only [Array.toList_map, List.getElem?_map, Array.getElem?_toList, Array.getElem?_range, hj, if_true, Option.map_some, Option.some.injEq] at hu
    rw [hzs] at hu
    have hlt : j % de.size < z.cells.size := by rw [hzs]; exact hm
    have hv' : z.cells[j % de.size] = v := by
      rw [← hz1] at hv
      have := (List.getElem?_eq_some_iff.1 hv).2
      simpa using this
    rw [getElem!_pos z.cells _ hlt, hv'] at hu
    rw [← hu]; exact hvr

theorem go_buildSlice (h : RelX x μ I s a w) {o : Oper} {t e : TypeId} {n : Nat} {ps : Array (Nat × Operand)} (ho : o.op = .buildSlice t n ps) {q : Nat} (hdst : o.dst = some q) (hd : q < x.n) (hu : s.used q = false)
    {d de : TD} (ht : td P t = some d) (hk : d.k = .slice e) (hte : td P e = some de) (hzl : de.zero.length = de.size) (hz : de.zero.all (·.oneCell') = true) (hn : n * de.size ≤ 16777216) (hn2 : n ≤ 16777216) {r : List (Nat × A)} (hr : evParts s.env ps.toList = some r)
    {rows : List (List D)} (hrows : setRows de.size (List.replicate n (zeroD de)) r = some rows) {zs : List (List C)} {ρs : List Nm} (hs : shutR s.rt rows = some (zs, ρs)) {ob : Prop} :
    Goes P x o a w (s.app o.dst ⟨some (.x (.o (.h (s.ep, 100 * q) 0 n n))), ρs.map (fun ρ => (ρ, none)) ++ [((s.ep, 100 * q), some (.row de.size zs))], true, ob⟩) := by
  obtain ⟨us, hrun, hF⟩ := run_buildSlice (w := w) ht hk hte hzl hz hn (evParts_spec h hr) hrows
  obtain ⟨I', hR, hI, hZ⟩ := shutR_spec h hs hF
  have hzd : (zeroD de).length = de.size := by simp [zeroD, hzl]
  obtain ⟨_, hlen, hcount⟩ := setRows_spec hrows (fun r hr => by rw [(List.mem_replicate.1 hr).2, hzd])
  obtain ⟨hzc, hzk⟩ := shutR_len hs hlen
  have hzn : zs.length = n := by rw [hzc, hcount]; simp
  have hul : us.size = n * de.size := by
    have := F2.length hZ
    rw [flatten_length hzk, hzn] at this
    simpa using this.symm
  have hrun' : (execOp a.eval o).run P w = .ok (.value (.slice (some ⟨w.heap.size, 0, none⟩) n n)) (w.alloc (.cells us e)) := by
    have e1 : (ps.map fun (p : Nat × Operand) => (p.1, a.eval p.2)) = (ps.toList.map fun p => (p.1, a.eval p.2)).toArray := by
      apply Array.ext'; simp
    simp only [execOp, ho, Sem.run_bind]
    rw [show (ps.map fun (x : Nat × Operand) => match x with | (i, x) => (i, a.eval x)) = (ps.toList.map fun p => (p.1, a.eval p.2)).toArray from e1, hrun]
    rfl
  have hu' : (s.shuts ρs).used q = false := by rw [shuts_rt]; exact hu
  have hnew := hR.new (j := 0) hd (by omega) hu' (Alk.refl w) (ob := .cells us e) (e := e) (k := de.size) (cap := n) (r := .row de.size zs) (e0 := .x (.o (.h (s.ep, 100 * q) 0 n n))) (u := .slice (some ⟨w.heap.size, 0, none⟩) n n)
    (fun w' μ' L' hs' hk' hh => by
      refine ⟨hzk, ⟨us.toList, F2.mono (fun _ _ => CR.mono hs') hZ, by simp [hul, hzn], us, hh, by simp [hzn], by simp [maxLen]; omega, by simpa using hul, ?_⟩, rfl⟩
      rw [hzn]
      apply List.take_of_length_le
      simp [hul])
    (fun w' μ' L' hs' hk' hμ hL => by
      have hep : (s.shuts ρs).ep = s.ep := by rw [shuts_rt]
      rw [hep, Nat.add_zero] at hμ hL
      refine ⟨rfl, _, hμ, fun l hl => ?_⟩
      have : l = n := by rw [hL] at hl; simp [Root.len, hzn] at hl; omega
      exact ⟨by omega, fun _ => ⟨by omega, .inr (.inr ⟨w.heap.size, n, rfl, by simp, by simp⟩)⟩⟩)
  rw [shuts_rt] at hnew
  have e2 : (ρs.map fun ρ => (ρ, (none : Option Root))).foldl (fun g p => upd g p.1 p.2) s.rt = delR s.rt ρs := by
    unfold delR
    rw [List.foldl_map]
  exact ⟨_, _, .inl hrun', _, I', by simpa [St.app, hdst, List.foldl_append, e2] using hnew⟩

/-- A composite slice of pointers. -/
theorem go_buildSliceP (h : RelX x μ I s a w) {o : Oper} {t e : TypeId} {n : Nat} {ps : Array (Nat × Operand)} (ho : o.op = .buildSlice t n ps) {q : Nat} (hdst : o.dst = some q) (hd : q < x.n) (hu : s.used q = false)
    {d de : TD} (ht : td P t = some d) (hk : d.k = .slice e) (hte : td P e = some de) (hzl : de.zero.length = de.size) (hz : de.zero.all (·.oneCell') = true) (hn : n * de.size ≤ 16777216) (hn2 : n ≤ 16777216) {r : List (Nat × A)} (hr : evParts s.env ps.toList = some r)
    {rows : List (List D)} (hrows : setRows de.size (List.replicate n (zeroD de)) r = some rows) {ob : Prop} :
    Goes P x o a w (s.app o.dst ⟨some (.x (.o (.h (s.ep, 100 * q) 0 n n))), [((s.ep, 100 * q), some (.bx rows))], true, ob⟩) := by
  obtain ⟨us, hrun, hF⟩ := run_buildSlice (w := w) ht hk hte hzl hz hn (evParts_spec h hr) hrows
  have hzd : (zeroD de).length = de.size := by simp [zeroD, hzl]
  obtain ⟨_, hlen, hcount⟩ := setRows_spec hrows (fun r hr => by rw [(List.mem_replicate.1 hr).2, hzd])
  have hzn : rows.length = n := by rw [hcount]; simp
  have hul : us.size = n * de.size := by
    have := F2.length hF
    rw [flatten_length hlen, hzn] at this
    simpa using this.symm
  have hrun' : (execOp a.eval o).run P w = .ok (.value (.slice (some ⟨w.heap.size, 0, none⟩) n n)) (w.alloc (.cells us e)) := by
    have e1 : (ps.map fun (p : Nat × Operand) => (p.1, a.eval p.2)) = (ps.toList.map fun p => (p.1, a.eval p.2)).toArray := by
      apply Array.ext'; simp
    simp only [execOp, ho, Sem.run_bind]
    rw [show (ps.map fun (x : Nat × Operand) => match x with | (i, x) => (i, a.eval x)) = (ps.toList.map fun p => (p.1, a.eval p.2)).toArray from e1, hrun]
    rfl
  exact goes_new h hdst hd hu (Alk.refl w) (cur := us) (e := e) (k := de.size) (cap := n) hrun'
    (fun w' μ' L' hs' hk' hh => by
      refine ⟨hlen, us.toList, F2.mono (fun _ _ => DR.mono hs' hk') hF, by simp [hul, hzn], us, hh, by simp [hzn], by simp [maxLen]; omega, by simpa using hul, ?_⟩
      rw [hzn]
      apply List.take_of_length_le
      simp [hul])
    (fun w' μ' L' hs' hk' hμ hL => by
      refine ⟨rfl, _, hμ, fun l hl => ?_⟩
      have : l = n := by rw [hL] at hl; simp [Root.len, hzn] at hl; omega
      exact ⟨by omega, fun _ => ⟨by omega, .inr (.inr ⟨w.heap.size, n, rfl, by simp, by simp⟩)⟩⟩)

/-! ### make -/
theorem zero_rows {de : TD} (hzl : de.zero.length = de.size) (hz : de.zero.all (·.oneCell') = true) {z : Value} (hz1 : z.cells.toList = de.zero) (n c : Nat) (hnc : n ≤ c) :
    F2 (CR w I) (List.replicate n (de.zero.map C.v)).flatten ((madeCells z.cells (c * de.size)).toList.take (n * de.size)) := by
  have hk0 : ∀ r ∈ List.replicate n (de.zero.map C.v), r.length = de.size := fun r hr => by rw [(List.mem_replicate.1 hr).2]; simp [hzl]
  have hzs : z.cells.size = de.size := by rw [← hzl, ← hz1]; simp
  have hm : n * de.size ≤ c * de.size := Nat.mul_le_mul_right _ hnc
  refine F2.of (by rw [flatten_length hk0]; simp [madeCells, Nat.min_eq_left hnc]) fun j y u hy hu => ?_
  rw [List.getElem?_take] at hu
  split at hu
  · rename_i hj
    have hs0 : 0 < de.size := Nat.pos_of_ne_zero fun h => by rw [h] at hj; omega
    have hmo : j % de.size < de.size := Nat.mod_lt _ hs0
    have hq : j / de.size < n := Nat.div_lt_of_lt_mul (by rw [Nat.mul_comm]; exact hj)
    have g := flatten_get hk0 (i := j / de.size) (c := de.zero.map C.v) (by rw [List.getElem?_replicate, if_pos hq]) (j % de.size) hmo
    rw [show j / de.size * de.size + j % de.size = j by rw [Nat.mul_comm]; exact Nat.div_add_mod j _, hy] at g
    have hlt : j % de.size < z.cells.size := by rw [hzs]; exact hmo
    have hu' : u = z.cells[j % de.size] := by
      simp only [madeCells, Array.toList_map, List.getElem?_map, Array.getElem?_toList, Array.getElem?_range, show j < c * de.size by omega, if_true, Option.map_some, Option.some.injEq] at hu
      rw [hzs] at hu
      rw [← hu, getElem!_pos z.cells _ hlt]
    have hzg : de.zero[j % de.size]? = some u := by
      rw [← hz1, hu']
      simp [hlt]
    rw [List.getElem?_map, hzg] at g
    cases g
    exact .v u (List.all_eq_true.1 hz u (List.mem_of_getElem? hzg))
  · cases hu

theorem go_makeSlice (h : RelX x μ I s a w) {o : Oper} {t e : TypeId} {y z : Operand} (ho : o.op = .makeSlice t y z) {q : Nat} (hdst : o.dst = some q) (hd : q < x.n) (hu : s.used q = false)
    {d de : TD} (ht : td P t = some d) (hk : d.k = .slice e) (hte : td P e = some de) (hzl : de.zero.length = de.size) (hz : de.zero.all (·.oneCell') = true) {ey ez : E} (hy : evE s.env y = some ey) (hz' : evE s.env z = some ez)
    {k1 k2 : IntKind} {l c : Int} (hl : isI ey = some (k1, l)) (hc : isI ez = some (k2, c)) (h0 : 0 ≤ l) (hlc : l ≤ c) (hb : (de.bytes : Int) * c ≤ 281474976710656) (h63 : c ≤ 9223372036854775807) {ob : Prop} :
    Goes P x o a w (s.app o.dst ⟨some (.x (.o (.h (s.ep, 100 * q) 0 l.toNat l.toNat))), [((s.ep, 100 * q), some (.row de.size (List.replicate l.toNat (de.zero.map C.v))))], true, ob⟩) := by
  have e1 : a.eval y = .int k1 l := sc_er (isI_spec hl ▸ evE_spec h hy)
  have e2 : a.eval z = .int k2 c := sc_er (isI_spec hc ▸ evE_spec h hz')
  obtain ⟨De, ie, ze, hDe, hie, hze, _, hsz, hby, hzc⟩ := td_spec hte
  have hr := run_make (P := P) w t e ie ze (td_slice ht hk) hie hze k1 k2 l c h0 hlc (by rw [hby]; exact hb) h63
  rw [hsz] at hr
  have hn : l.toNat ≤ c.toNat := by omega
  exact goes_new h hdst hd hu (Alk.refl w) (cur := madeCells ze.cells (c.toNat * de.size)) (e := e) (k := de.size) (cap := c.toNat) (u := .slice (some ⟨w.heap.size, 0, none⟩) l.toNat c.toNat) (by simp only [execOp, ho, e1, e2, Sem.run_bind, hr, Result.andThen_ok, Sem.run_pure])
    (fun w' μ' L' hs' hk' hh => by
      refine ⟨fun r hr => by rw [(List.mem_replicate.1 hr).2]; simp [hzl], ⟨_, zero_rows hzl hz hzc l.toNat c.toNat hn, ?_, _, hh, by simpa using hn, by simp [maxLen]; omega, by simp [madeCells], by simp⟩, rfl⟩
      have hm : l.toNat * de.size ≤ c.toNat * de.size := Nat.mul_le_mul_right _ hn
      simp [madeCells, Nat.min_eq_left hn])
    (fun w' μ' L' hs' hk' hμ hL => by
      refine ⟨rfl, _, hμ, fun k hk => ?_⟩
      have : k = l.toNat := by rw [hL] at hk; simp [Root.len] at hk; omega
      exact ⟨by omega, fun _ => ⟨by omega, .inr (.inr ⟨w.heap.size, c.toNat, rfl, by simp, by simp⟩)⟩⟩)
end
end Go.Proofs.YtcgkhljolflenaaGreatW.V

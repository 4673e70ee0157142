/- copy, min and max, functions as values. No condition but each theorem's own. -/
import Derived.Test.YtcgkhljolflenaaGreatVN
namespace Go.Proofs.YtcgkhljolflenaaGreatW.V
open Go

section
variable {P : Program} {x : Ctx} {μ : Mu} {I : Imm} {s : St} {a : Act} {w : World}

theorem go_copy (h : RelX x μ I s a w) {o : Oper} {y z : Operand} {t t' e : TypeId} (ho : o.op = .call { callee := .builtin .copy, args := #[y, z], argTypes := #[t, t'] }) (hd : ∀ d, o.dst = some d → d < x.n)
    {d1 de : TD} (ht : td P t = some d1) (hk : d1.k = .slice e) (hte : td P e = some de)
    {ρ : Nm} {n kk : Nat} {xs : List (List C)} (he : evE s.env y = some (.x (.o (.h ρ 0 n n)))) (hr : s.rt ρ = some (.row kk xs)) (hn : xs.length = n) (hkk : kk = de.size) {ez : E} (hz : evE s.env z = some ez) {ys : List (List C)} (hv : viewE s.rt ez = some ys)
    (hyl : ∀ y ∈ ys, y.length = de.size) (hyn : ys.length = n) {ob : Prop} :
    Goes P x o a w (s.app o.dst ⟨some (sc (.int .i64 n)), [(ρ, some (.row kk ys))], false, ob⟩) := by
  subst hkk
  have hyr := evE_spec h he
  obtain ⟨f, hf, hR, _, hH⟩ := handle_live h hyr hr hn
  obtain ⟨news, hs, hny⟩ := Src.view (P := P) h (evE_spec h hz) hv hyl
  obtain ⟨hxl, ⟨olds, hF, hO⟩, hkk⟩ := hR
  have hone := F2.one hny
  have hnl : news.length = n * de.size := by rw [hs.length, hyn]
  have fin : ∀ w', (Builtin.copy_ #[t, t'] o.type #[a.eval y, a.eval z]).run P w = .ok (goInt n) w' → RelX x (upd μ ρ (some f)) I { s with rt := upd s.rt ρ (some (.row de.size ys)) } a w' →
      Goes P x o a w (s.app o.dst ⟨some (sc (.int .i64 n)), [(ρ, some (.row de.size ys))], false, ob⟩) := by
    intro w' hrun hrel
    refine ⟨.int .i64 n, w', .inl ?_, upd μ ρ (some f), I, ?_⟩
    · simp only [execOp, ho, resolve, invoke, builtin, Sem.run_bind, Sem.run_pure, Result.andThen_ok, List.map_toArray, List.map_cons, List.map_nil, hrun]; rfl
    · cases hdst : o.dst with
      | none => simpa [St.app, hdst, Act.put] using hrel
      | some d => simpa [St.app] using hrel.put (e := sc (.int .i64 n)) (u := .int .i64 n) (hd d hdst) (.v _ rfl)
  have hfc := hs.cells w (Alk.refl w)
  rw [hyn] at hfc
  have hlen := hs.len
  rw [hyn] at hlen
  have hO2 := hO.2
  have run : ∀ (q : Option Addr) (c : Nat), a.eval y = .slice q n c → (Builtin.copy_ #[t, t'] o.type #[a.eval y, a.eval z]).run P w = ((match q with | some ad => storeCells ad news | none => pure () : Sem Unit).run P w).andThen fun _ w' => .ok (goInt n) w' := by
    intro q c e1
    cases q <;> simp [Builtin.copy_, run_underlying (td_slice ht hk), e1, hlen, run_sizeOf hte, hfc]
  rcases hH with ⟨_, h0, _⟩ | ⟨hb, _, rfl, e1⟩ | ⟨g, c, hb, e1, hc⟩
  · omega
  · have hy0 : ys = [] := List.eq_nil_of_length_eq_zero hyn
    have hx0 : xs = [] := List.eq_nil_of_length_eq_zero hn
    subst hy0; subst hx0
    refine fin w (by rw [run _ _ e1]; rfl) ?_
    have e2 : upd μ ρ (some f) = μ := by funext σ; simp only [upd]; split <;> simp_all
    have e3 : upd s.rt ρ (some (Root.row de.size [])) = s.rt := by funext σ; simp only [upd]; split <;> simp_all
    rw [e2, e3]; exact h
  · rw [hb] at hO2
    obtain ⟨cur, hh, hnc, hcm, hcs, htk⟩ := hO2
    rw [hkk] at hcs htk
    rw [hn] at hnc htk
    have hm2 : n * de.size ≤ f.cap * de.size := Nat.mul_le_mul_right _ hnc
    have hle : 0 + news.length ≤ cur.toList.length := by rw [hnl]; simp; omega
    have hst := run_storeCells_at P g 0 f.e news 0 cur w hh (by rw [hnl]; omega) hone
    simp only [Nat.add_zero] at hst
    refine fin (w.setRow g (sp cur.toList 0 news).toArray) (by
      rw [run _ _ e1]
      simp only [Nat.zero_mul]
      show ((storeCells ⟨g, 0, none⟩ news).run P w).andThen _ = _
      rw [hst]; rfl) ?_
    refine h.regrow hr (r' := .row de.size ys) hf (w' := w.setRow g (sp cur.toList 0 news).toArray) (S := (· = g)) (fun k hk => by rw [hk]; exact hb)
      ⟨rfl, rfl, rfl, by simp [World.setRow], fun k _ hk => setRow_other w g k _ hk⟩ (f' := f) (.inl rfl) (by simp [Root.len]; omega) (fun b hb' => .inl hb') (fun hst' hK => by
        refine ⟨fun y hy => by rw [hyl y hy, hkk], ⟨news, F2.mono (fun _ _ => CR.mono hst') hny, by rw [hs.length, hkk], ?_⟩, hkk⟩
        rw [hb]
        refine ⟨_, setRow_heap w g cur _ f.e _ hh, by omega, hcm, by simp only [List.size_toArray]; rw [sp_length hle, hkk]; simpa using hcs, ?_⟩
        rw [hkk, hyn, ← hnl]
        have := sp_take hle
        simpa using this)

theorem go_min (h : RelX x μ I s a w) {o : Oper} {y z : Operand} {ts : Array TypeId} (ho : o.op = .call { callee := .builtin .min, args := #[y, z], argTypes := ts }) (hd : ∀ d, o.dst = some d → d < x.n) {k l : IntKind} {m n : Int}
    (hy : evE s.env y = some (sc (.int k m))) (hz : evE s.env z = some (sc (.int l n))) {ob : Prop} : Goes P x o a w (s.app o.dst ⟨some (sc (.int k (min m n))), [], false, ob⟩) := by
  have e1 : a.eval y = .int k m := sc_er (evE_spec h hy)
  have e2 : a.eval z = .int l n := sc_er (evE_spec h hz)
  have e3 : (if n < m then n else m) = min m n := by omega
  have key : (Builtin.min_ ts o.type #[a.eval y, a.eval z]).run P w = .ok (.int k (min m n)) w := by
    simp [Builtin.min_, e1, e2, Builtin.min2, e3]
  refine goes_val h hd (e := sc _) (v := .int k (min m n)) ?_ (.v _ rfl)
  simp only [execOp, ho, resolve, invoke, builtin, Sem.run_bind, Sem.run_pure, Result.andThen_ok, List.map_toArray, List.map_cons, List.map_nil, key]

theorem go_max (h : RelX x μ I s a w) {o : Oper} {y z : Operand} {ts : Array TypeId} (ho : o.op = .call { callee := .builtin .max, args := #[y, z], argTypes := ts }) (hd : ∀ d, o.dst = some d → d < x.n) {k l : IntKind} {m n : Int}
    (hy : evE s.env y = some (sc (.int k m))) (hz : evE s.env z = some (sc (.int l n))) {ob : Prop} : Goes P x o a w (s.app o.dst ⟨some (sc (.int k (max m n))), [], false, ob⟩) := by
  have e1 : a.eval y = .int k m := sc_er (evE_spec h hy)
  have e2 : a.eval z = .int l n := sc_er (evE_spec h hz)
  have e3 : (if m < n then n else m) = max m n := by omega
  have key : (Builtin.max_ ts o.type #[a.eval y, a.eval z]).run P w = .ok (.int k (max m n)) w := by
    simp [Builtin.max_, e1, e2, Builtin.max2, e3]
  refine goes_val h hd (e := sc _) (v := .int k (max m n)) ?_ (.v _ rfl)
  simp only [execOp, ho, resolve, invoke, builtin, Sem.run_bind, Sem.run_pure, Result.andThen_ok, List.map_toArray, List.map_cons, List.map_nil, key]

/-! ### Functions as values -/
/-- A closed value. -/
def toV : E → Option Value
  | .x (.o (.c (.v v))) => some v
  | .x (.a cs) => match unDs cs with
    | some us => some (.agg us.toArray)
    | none => none
  | _ => none
theorem toV_spec {e : E} {u v : Value} {L : Lens} (he : ER w I μ L e u) (h : toV e = some v) : u = v := by
  unfold toV at h
  split at h
  · cases h; exact sc_er he
  · split at h
    · rename_i us hus
      cases h
      obtain ⟨vs, rfl, h2⟩ := he
      rw [unDs_spec hus h2]
    · cases h
  · cases h

def toVs (env : Nat → Option E) : List Operand → Option (List Value)
  | [] => some []
  | z :: l => match evE env z with
    | some e => match toV e, toVs env l with
      | some v, some vs => some (v :: vs)
      | _, _ => none
    | none => none
theorem toVs_spec (h : RelX x μ I s a w) : ∀ {l : List Operand} {vs : List Value}, toVs s.env l = some vs → l.map a.eval = vs
  | [], vs, hv => by simp only [toVs, Option.some.injEq] at hv; subst hv; rfl
  | z :: l, vs, hv => by
    simp only [toVs] at hv
    split at hv
    · rename_i e he
      split at hv
      · rename_i v vs' h1 h2
        cases hv
        simp [toV_spec (evE_spec h he) h1, toVs_spec h h2]
      · cases hv
    · cases hv

theorem go_makeFunc (h : RelX x μ I s a w) {o : Oper} {fn : Fn} {first cap : Array Operand} (ho : o.op = .makeFunc fn first cap) (hd : ∀ d, o.dst = some d → d < x.n) {fs cs : List Value} (hf : toVs s.env first.toList = some fs) (hc : toVs s.env cap.toList = some cs) {ob : Prop} :
    Goes P x o a w (s.app o.dst ⟨some (sc (.func fn fs.toArray cs.toArray)), [], false, ob⟩) := by
  have e1 : first.map a.eval = fs.toArray := by rw [← toVs_spec h hf]; apply Array.ext'; simp
  have e2 : cap.map a.eval = cs.toArray := by rw [← toVs_spec h hc]; apply Array.ext'; simp
  exact goes_val h hd (e := sc _) (v := .func fn fs.toArray cs.toArray) (by simp [execOp, ho, e1, e2, Instr.makeFunc]) (.v _ rfl)
end

end Go.Proofs.YtcgkhljolflenaaGreatW.V

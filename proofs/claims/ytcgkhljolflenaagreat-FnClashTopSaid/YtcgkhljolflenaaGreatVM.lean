/- append, copy, make. No condition but each theorem's own. -/
import Derived.Test.YtcgkhljolflenaaGreatVL
namespace Go.Proofs.YtcgkhljolflenaaGreatW.V
open Go

section
variable {P : Program} {x : Ctx} {μ : Mu} {I : Imm} {s : St} {a : Act} {w : World}

theorem sp_take {l : List Value} {p : Nat} {us : List Value} (h : p + us.length ≤ l.length) : (sp l p us).take (p + us.length) = l.take p ++ us := by
  unfold sp
  rw [List.take_append_of_le_length (by simp; omega)]
  have : (l.take p ++ us).length = p + us.length := by simp; omega
  rw [← this, List.take_length]

theorem append_core (h : RelX x μ I s a w) {t t' ty e : TypeId} {d1 d2 de : TD} (ht : td P t = some d1) (hk : d1.k = .slice e) (ht' : td P t' = some d2) (hk' : (∃ e', d2.k = .slice e') ∨ d2.k = .str) (hte : td P e = some de) (hzl : de.zero.length = de.size)
    {ρ : Nm} {xs : List (List C)} (hr : s.rt ρ = some (.row de.size xs)) {f : Info} (hf : μ ρ = some f) {v : Value} (hv : HR f 0 xs.length v) {ys : List (List C)} {sv : Value} {news : List Value} (hs : Src P w de.size ys.length sv news)
    (hny : F2 (CR w I) ys.flatten news) (hyl : ∀ y ∈ ys, y.length = de.size) (hbytes : (xs.length + ys.length) * de.bytes ≤ 140737488355328) (h63 : xs.length + ys.length ≤ maxLen) :
    ∃ v' w' μ', (Builtin.append_ #[t, t'] ty #[v, sv]).run P w = .ok v' w' ∧ RelX x μ' I { s with rt := upd s.rt ρ (some (.row de.size (xs ++ ys))) } a w' ∧
      ER w' I μ' (St.L { s with rt := upd s.rt ρ (some (.row de.size (xs ++ ys))) }) (.x (.o (.h ρ 0 (xs.length + ys.length) (xs.length + ys.length)))) v' := by
  obtain ⟨f0, hf0, hR, _⟩ := h.root ρ _ hr
  rw [hf] at hf0; cases hf0
  obtain ⟨hxl, ⟨olds, hF, hO⟩, hkk⟩ := hR
  have hone := F2.one hny
  obtain ⟨v', w', hrun, hcase⟩ := run_app (ty := ty) ht hk ht' hk' hte hzl hO hkk hv hs hone hbytes h63
  have hll : ∀ y ∈ xs ++ ys, y.length = de.size := fun y hy => by
    rcases List.mem_append.1 hy with hy | hy
    · rw [hxl y hy, hkk]
    · exact hyl y hy
  have hfl : F2 (CR w I) (xs ++ ys).flatten (olds ++ news) := by rw [List.flatten_append]; exact F2.append hF hny
  have hnl : news.length = ys.length * de.size := hs.length
  have hol : olds.length = xs.length * de.size := by rw [hO.1, hkk]
  rcases hcase with ⟨g, cur, hb, hh, hroom, rfl, rfl⟩ | ⟨hb, hm, rfl, rfl⟩ | ⟨cap, rest, rfl, rfl, hcap, hcm, hlen, hm⟩
  · have hO2 := hO.2
    rw [hb] at hO2
    obtain ⟨cur', hh', hnc, hcm, hcs, htk⟩ := hO2
    rw [hh] at hh'; cases hh'
    rw [hkk] at hcs htk
    have hm2 : (xs.length + ys.length) * de.size ≤ f.cap * de.size := Nat.mul_le_mul_right _ hroom
    rw [Nat.add_mul] at hm2
    have hle : xs.length * de.size + news.length ≤ cur.toList.length := by rw [hnl]; simp; omega
    have hrel := h.regrow hr (r' := .row de.size (xs ++ ys)) hf (w' := w.setRow g (sp cur.toList (xs.length * de.size) news).toArray) (S := (· = g)) (fun k hk => by rw [hk]; exact hb)
      ⟨rfl, rfl, rfl, by simp [World.setRow], fun k _ hk => setRow_other w g k _ hk⟩ (f' := f) (.inl rfl) (by simp [Root.len]) (fun b hb' => .inl hb') (fun hst hK => by
        refine ⟨fun y hy => by rw [hll y hy, hkk], ⟨olds ++ news, F2.mono (fun _ _ => CR.mono hst) hfl, ?_, ?_⟩, hkk⟩
        · rw [List.length_append, List.length_append, hol, hnl, hkk, Nat.add_mul]
        · rw [hb]
          refine ⟨_, setRow_heap w g cur _ f.e _ hh, by simpa using hroom, hcm, by simp only [List.size_toArray]; rw [sp_length hle, hkk]; simpa using hcs, ?_⟩
          simp only [List.length_append, Nat.add_mul, hkk]
          rw [← hnl, sp_take hle, htk])
    refine ⟨_, _, _, hrun, hrel, rfl, f, upd_same _ _ _, fun l hl => ?_⟩
    have hl' : l = xs.length + ys.length := by simp [St.L, upd, Root.len] at hl; omega
    exact ⟨by omega, fun _ => ⟨by omega, .inr (.inr ⟨g, f.cap, hb, by simp, by omega⟩)⟩⟩
  · have hy0 : ys = [] := List.eq_nil_of_length_eq_zero hm
    subst hy0
    have hn0 : xs.length = 0 := by
      have h2 := hO.2; rw [hb] at h2; exact h2.1
    have e1 : upd s.rt ρ (some (Root.row de.size (xs ++ []))) = s.rt := by
      funext σ
      simp only [upd, List.append_nil]
      split
      · rename_i e; rw [e, hr]
      · rfl
    rw [e1]
    refine ⟨_, _, _, hrun, h, ?_⟩
    have hvn : v' = .slice none 0 0 := by
      rcases hv with ⟨_, h0, _⟩ | ⟨_, _, _, rfl⟩ | ⟨b, c, hb', _⟩
      · omega
      · rfl
      · rw [hb] at hb'; cases hb'
    subst hvn
    refine ⟨rfl, f, hf, fun l hl => ?_⟩
    have hl' : l = xs.length := by simp [St.L, hr, Root.len] at hl; omega
    refine ⟨by simp; omega, fun _ => ⟨by simp, .inr (.inl ⟨hb, rfl, hn0, rfl⟩)⟩⟩
  · have hsz : (w.drew.alloc (.cells (olds ++ news ++ rest).toArray e)).heap.size = w.heap.size + 1 := by simp
    have hrel := h.regrow hr (r' := .row de.size (xs ++ ys)) hf (w' := w.drew.alloc (.cells (olds ++ news ++ rest).toArray e)) (S := fun _ => False) (fun k hk => hk.elim)
      ⟨rfl, rfl, rfl, by omega, fun k hk _ => by
        have := heap_alloc_old w.drew (.cells (olds ++ news ++ rest).toArray e) (r := k) (by simpa using hk)
        rw [this]; rfl⟩ (f' := ⟨some w.heap.size, e, de.size, cap⟩) (.inr (by simp [Root.len]; omega)) (by simp [Root.len])
      (fun b hb' => by cases hb'; exact .inr ⟨Nat.le_refl _, by omega⟩) (fun hst hK => by
        refine ⟨hll, ⟨olds ++ news, F2.mono (fun _ _ => CR.mono hst) hfl, ?_, ?_⟩, rfl⟩
        · rw [List.length_append, List.length_append, hol, hnl, Nat.add_mul]
        · have hnew := heap_alloc_new w.drew (.cells (olds ++ news ++ rest).toArray e)
          refine ⟨_, hnew, by simpa using hcap, hcm, by simpa using hlen, ?_⟩
          simp only [List.length_append, Nat.add_mul]
          rw [← hol, ← hnl, ← List.length_append, List.take_left])
    refine ⟨_, _, _, hrun, hrel, rfl, _, upd_same _ _ _, fun l hl => ?_⟩
    have hl' : l = xs.length + ys.length := by simp [St.L, upd, Root.len] at hl; omega
    exact ⟨by omega, fun _ => ⟨by omega, .inr (.inr ⟨w.heap.size, cap, rfl, by simp, by simp⟩)⟩⟩

/-- A name for a list that isn't there yet. -/
theorem RelX.nilRoot (h : RelX x μ I s a w) {d : Nat} (hu : s.used d = false) (e k : Nat) :
    RelX x (upd μ (s.ep, 100 * d) (some ⟨none, e, k, 0⟩)) I { s with rt := upd s.rt (s.ep, 100 * d) (some (.row k [])), used := upd s.used d true } a w := by
  have hfree := h.free (j := 0) (d := d) (by omega) hu
  simp only [Nat.add_zero] at hfree
  have hK : Kept μ s.L (upd μ (s.ep, 100 * d) (some ⟨none, e, k, 0⟩)) (St.L { s with rt := upd s.rt (s.ep, 100 * d) (some (.row k [])), used := upd s.used d true }) := fun ρ f hf => by
    have hne : ρ ≠ (s.ep, 100 * d) := fun e => by rw [e, hfree] at hf; cases hf
    refine ⟨f, by rw [upd_ne _ _ hne]; exact hf, fun l' hl' => ⟨l', ?_, Nat.le_refl _, fun _ => rfl⟩⟩
    simpa [St.L, upd, hne] using hl'
  refine h.master (S := fun _ => False) (Gr.refl w _) (fun _ h _ => h.elim) (fun _ _ h => h) (fun _ _ h => .inl h) hK rfl rfl (fun _ i e he => .inl ⟨he, rfl⟩) (fun hst ρ r' hr' => ?_) (fun ρ ρ' f f' b h1 h2 h3 h4 h5 h6 => ?_) (fun g c f hf => ?_)
  · simp only [upd] at hr'
    split at hr'
    · rename_i hi
      cases hr'; subst hi
      refine .inr ⟨_, upd_same _ _ _, ⟨by simp, ⟨[], .nil, by simp, by simp⟩, rfl⟩, fun b hb => by cases hb⟩
    · rename_i hi
      refine .inl ⟨hr', upd_ne _ _ hi, fun f b hf hb => ⟨fun h => h, ?_⟩⟩
      obtain ⟨f', hf', _, h3⟩ := h.root ρ r' hr'
      rw [hf] at hf'; cases hf'
      exact (h3 b hb).2.1
  · by_cases e1 : ρ = (s.ep, 100 * d)
    · subst e1; rw [upd_same] at h3; cases h3; cases h5
    · by_cases e2 : ρ' = (s.ep, 100 * d)
      · subst e2; rw [upd_same] at h4; cases h4; cases h6
      · rw [upd_ne _ _ e1] at h3
        rw [upd_ne _ _ e2] at h4
        exact h.apart ρ ρ' f f' b (by simpa [upd, e1] using h1) (by simpa [upd, e2] using h2) h3 h4 h5 h6
  · by_cases hi : (g, c) = (s.ep, 100 * d)
    · cases hi
      exact .inr ⟨rfl, by rw [show (100 * d) / 100 = d by omega]; exact upd_same _ _ _⟩
    · rw [upd_ne _ _ hi] at hf
      rcases h.fresh g c f hf with h1 | ⟨h1, h2⟩
      · exact .inl h1
      · refine .inr ⟨h1, ?_⟩
        simp only [upd]
        split
        · rfl
        · exact h2

/-- What is appended: a list that is read, or a string. -/
def srcE (rt : Nm → Option Root) (str : Bool) (e : E) : Option (List (List C)) := match str with
  | false => viewE rt e
  | true => match e with
    | .x (.o (.c (.v (.string b)))) => some (b.data.toList.map encB)
    | _ => none

theorem src_spec (h : RelX x μ I s a w) {e : E} {u : Value} (he : ER w I μ s.L e u) {str : Bool} {ys : List (List C)} (hv : srcE s.rt str e = some ys) {k : Nat} (hk : ∀ y ∈ ys, y.length = k) (hk1 : str = true → k = 1) :
    ∃ news, Src P w k ys.length u news ∧ F2 (CR w I) ys.flatten news := by
  cases str with
  | false => exact Src.view h he hv hk
  | true =>
    simp only [srcE] at hv
    split at hv
    · rename_i b
      cases hv
      have : u = .string b := sc_er he
      subst this
      rw [hk1 rfl]
      simpa using Src.str (P := P) (w := w) (I := I) (b := b)
    · cases hv

theorem run_call_append {o : Oper} {y z : Operand} {t t' : TypeId} {v' : Value} {w' : World} (ho : o.op = .call { callee := .builtin .append, args := #[y, z], argTypes := #[t, t'] }) (hr : (Builtin.append_ #[t, t'] o.type #[a.eval y, a.eval z]).run P w = .ok v' w') :
    (execOp a.eval o).run P w = .ok (.value v') w' := by
  simp only [execOp, ho, resolve, invoke, builtin, Sem.run_bind, Sem.run_pure, Result.andThen_ok, List.map_toArray, List.map_cons, List.map_nil, hr]

theorem go_append (h : RelX x μ I s a w) {o : Oper} {y z : Operand} {t t' e : TypeId} (ho : o.op = .call { callee := .builtin .append, args := #[y, z], argTypes := #[t, t'] }) (hd : ∀ d, o.dst = some d → d < x.n)
    {d1 d2 de : TD} (ht : td P t = some d1) (hk : d1.k = .slice e) (ht' : td P t' = some d2) {str : Bool} (hk' : (str = false ∧ ∃ e', d2.k = .slice e') ∨ (str = true ∧ d2.k = .str)) (hte : td P e = some de) (hzl : de.zero.length = de.size)
    {ρ : Nm} {n kk : Nat} {xs : List (List C)} (he : evE s.env y = some (.x (.o (.h ρ 0 n n)))) (hr : s.rt ρ = some (.row kk xs)) (hn : xs.length = n) (hkk : kk = de.size) {ez : E} (hz : evE s.env z = some ez) {ys : List (List C)} (hv : srcE s.rt str ez = some ys)
    (hyl : ∀ y ∈ ys, y.length = de.size) (hk1 : str = true → de.size = 1) (hbytes : (n + ys.length) * de.bytes ≤ 140737488355328) (h63 : n + ys.length ≤ maxLen) {ob : Prop} :
    Goes P x o a w (s.app o.dst ⟨some (.x (.o (.h ρ 0 (n + ys.length) (n + ys.length)))), [(ρ, some (.row kk (xs ++ ys)))], false, ob⟩) := by
  subst hkk; subst hn
  have hy := evE_spec h he
  obtain ⟨f, hf, _, _, hH⟩ := handle_live h hy hr rfl
  obtain ⟨news, hs, hny⟩ := src_spec (P := P) h (evE_spec h hz) hv hyl hk1
  obtain ⟨v', w', μ', hrun, hrel, her⟩ := append_core (ty := o.type) h ht hk ht' (by rcases hk' with h | h; exact .inl h.2; exact .inr h.2) hte hzl hr hf hH hs hny hyl hbytes h63
  refine ⟨v', w', .inl (run_call_append ho hrun), μ', I, ?_⟩
  cases hdst : o.dst with
  | none => simpa [St.app, hdst, Act.put] using hrel
  | some d => simpa [St.app] using hrel.put (hd d hdst) her

theorem go_appendNil (h : RelX x μ I s a w) {o : Oper} {y z : Operand} {t t' e : TypeId} (ho : o.op = .call { callee := .builtin .append, args := #[y, z], argTypes := #[t, t'] }) {q : Nat} (hdst : o.dst = some q) (hd : q < x.n) (hu : s.used q = false)
    {d1 d2 de : TD} (ht : td P t = some d1) (hk : d1.k = .slice e) (ht' : td P t' = some d2) {str : Bool} (hk' : (str = false ∧ ∃ e', d2.k = .slice e') ∨ (str = true ∧ d2.k = .str)) (hte : td P e = some de) (hzl : de.zero.length = de.size)
    (he : evE s.env y = some (sc (.slice none 0 0))) {ez : E} (hz : evE s.env z = some ez) {ys : List (List C)} (hv : srcE s.rt str ez = some ys)
    (hyl : ∀ y ∈ ys, y.length = de.size) (hk1 : str = true → de.size = 1) (hbytes : ys.length * de.bytes ≤ 140737488355328) (h63 : ys.length ≤ maxLen) {ob : Prop} :
    Goes P x o a w (s.app o.dst ⟨some (.x (.o (.h (s.ep, 100 * q) 0 ys.length ys.length))), [((s.ep, 100 * q), some (.row de.size ys))], true, ob⟩) := by
  have hyv : a.eval y = .slice none 0 0 := sc_er (evE_spec h he)
  obtain ⟨news, hs, hny⟩ := src_spec (P := P) h (evE_spec h hz) hv hyl hk1
  have hnil := h.nilRoot hu e de.size
  obtain ⟨v', w', μ', hrun, hrel, her⟩ := append_core (ty := o.type) hnil (ρ := (s.ep, 100 * q)) (xs := []) ht hk ht' (by rcases hk' with h | h; exact .inl h.2; exact .inr h.2) hte hzl (upd_same _ _ _) (upd_same _ _ _) (v := .slice none 0 0)
    (.inr (.inl ⟨rfl, rfl, rfl, rfl⟩)) hs hny hyl (by simpa using hbytes) (by simpa using h63)
  simp only [List.nil_append, List.length_nil, Nat.zero_add] at hrel her
  refine ⟨v', w', .inl (run_call_append ho (by rw [hyv]; exact hrun)), μ', I, ?_⟩
  have := hrel.put hd her
  have e1 : upd (upd s.rt (s.ep, 100 * q) (some (Root.row de.size []))) (s.ep, 100 * q) (some (.row de.size ys)) = upd s.rt (s.ep, 100 * q) (some (.row de.size ys)) := by
    funext σ; simp only [upd]; split <;> rfl
  rw [e1] at this
  simpa [St.app, hdst] using this
end

end Go.Proofs.YtcgkhljolflenaaGreatW.V

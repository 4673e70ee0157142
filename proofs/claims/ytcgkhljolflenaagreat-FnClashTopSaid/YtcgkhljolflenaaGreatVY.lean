/- What a function does, out of its code. No condition but each theorem's own. -/
import Derived.Test.YtcgkhljolflenaaGreatVX
namespace Go.Proofs.YtcgkhljolflenaaGreatW.V
open Go

def envOf : Nat → List E → List (Nat × E)
  | _, [] => []
  | j, e :: l => (j, e) :: envOf (j + 1) l
def rtOf : Nat → List Root → List (Nm × Root)
  | _, [] => []
  | j, r :: l => ((0, j), r) :: rtOf (j + 1) l

theorem lk_envOf : ∀ {l : List E} {j i : Nat} {e : E}, lk (envOf j l) i = some e → j ≤ i ∧ l[i - j]? = some e
  | [], _, _, _, h => by simp [envOf, lk] at h
  | e0 :: l, j, i, e, h => by
    simp only [envOf, lk] at h
    split at h
    · rename_i e1; cases h; subst e1; simp
    · rename_i hne
      obtain ⟨h1, h2⟩ := lk_envOf h
      refine ⟨by omega, ?_⟩
      rw [show i - j = (i - (j + 1)) + 1 by omega]
      simpa using h2

theorem lk_rtOf : ∀ {l : List Root} {j : Nat} {ρ : Nm}, lk (rtOf j l) ρ = if ρ.1 = 0 ∧ j ≤ ρ.2 then l[ρ.2 - j]? else none
  | [], j, ρ => by simp [rtOf, lk]
  | r :: l, j, (g, c) => by
    simp only [rtOf, lk, lk_rtOf (l := l), Prod.mk.injEq]
    by_cases h0 : g = 0
    · by_cases h1 : c = j
      · subst h1; simp [h0]
      · by_cases h2 : j ≤ c
        · rw [show c - j = (c - (j + 1)) + 1 by omega]
          simp [h0, h1, h2, show j + 1 ≤ c by omega]
        · simp [h0, h1, h2, show ¬ j + 1 ≤ c by omega]
    · simp [h0]

def startV (args : List E) (rin : List Root) : LS := ⟨envOf 0 args, rtOf 0 rin, 1⟩

/-! ### The results -/
def resA (P : Program) (env : Nat → Option E) (rt : Nm → Option Root) : ResultVar → Option A
  | .tmp t => match env t with
    | some (.x y) => some y
    | _ => none
  | .cell a t => match td P t, env a with
    | some d, some e => ldE d rt e
    | _, _ => none

theorem run_sure {P : Program} {w w' : World} {t : TypeId} {u v : Value} (h : (Instr.loadAt t u).run P w = .ok v w') : (do loadVar t (← asAddr u) : Sem Value).run P w = .ok v w' := by
  cases u with
  | pointer q => cases q <;> simp_all [Instr.loadAt, Instr.sureAddr, asAddr]
  | _ => simp_all [Instr.loadAt, Instr.sureAddr]

theorem run_resA {P : Program} {x : Ctx} {μ : Mu} {I : Imm} {s : St} {a : Act} {w : World} (h : RelX x μ I s a w) {r : ResultVar} {y : A} (hr : resA P s.env s.rt r = some y) :
    ∃ v, (match r with | .tmp t => (pure (a.tmps.getD t undef) : Sem Value) | .cell b t => (do loadVar t (← asAddr (a.tmps.getD b undef)) : Sem Value)).run P w = .ok v w ∧ AR w I μ s.L y v := by
  cases r with
  | tmp t =>
    simp only [resA] at hr
    split at hr
    · rename_i z hz
      cases hr
      obtain ⟨u, hu, h1⟩ := h.env t _ hz
      exact ⟨u, by simp [hu], h1⟩
    · cases hr
  | cell b t =>
    simp only [resA] at hr
    split at hr
    · rename_i d e hd he
      obtain ⟨u, hu, h1⟩ := h.env b _ he
      obtain ⟨v, h2, h3⟩ := run_load h h1 hd hr
      refine ⟨v, ?_, h3⟩
      have hg : a.tmps.getD b undef = u := by simp [hu]
      show (do loadVar t (← asAddr (a.tmps.getD b undef)) : Sem Value).run P w = _
      rw [hg]
      exact run_sure h2
    · cases hr

def valsE : List A → E
  | [y] => .x y
  | vs => .t vs

theorem run_results {P : Program} {x : Ctx} {μ : Mu} {I : Imm} {s : St} {a : Act} {w : World} (h : RelX x μ I s a w) {fn : Func} {vs : List A} (hr : mapO (resA P s.env s.rt) fn.results.toList = some vs) :
    ∃ v, (results fn a.tmps).run P w = .ok v w ∧ ER w I μ s.L (valsE vs) v := by
  have key : ∀ (l : List ResultVar) (vs : List A), mapO (resA P s.env s.rt) l = some vs → ∃ us : List Value, (l.mapM (m := Sem) fun | .tmp t => pure (a.tmps.getD t undef) | .cell b t => do loadVar t (← asAddr (a.tmps.getD b undef))).run P w = .ok us w ∧ F2 (AR w I μ s.L) vs us := by
    intro l
    induction l with
    | nil => intro vs hvs; simp only [mapO, Option.some.injEq] at hvs; subst hvs; exact ⟨[], by simp, .nil⟩
    | cons r l ih =>
      intro vs hvs
      simp only [mapO] at hvs
      split at hvs
      · rename_i y vs' h1 h2
        cases hvs
        obtain ⟨v, h3, h4⟩ := run_resA h h1
        obtain ⟨us, h5, h6⟩ := ih vs' h2
        refine ⟨v :: us, ?_, .cons h4 h6⟩
        rw [List.mapM_cons]
        have hcons : ∀ (m : Sem Value) (k : Sem (List Value)), m.run P w = .ok v w → k.run P w = .ok us w → (do let y ← m; let ys ← k; pure (y :: ys) : Sem (List Value)).run P w = .ok (v :: us) w := fun m k h1 h2 => by
          simp [h1, h2]
        exact hcons _ _ h3 h5
      · cases hvs
  obtain ⟨us, h1, h2⟩ := key _ _ hr
  refine ⟨if h : us.toArray.size = 1 then us.toArray[0] else .tuple us.toArray, ?_, ?_⟩
  · have hm : ∀ (f : ResultVar → Sem Value), (fn.results.toList.mapM f).run P w = .ok us w → (fn.results.mapM f).run P w = .ok us.toArray w := fun f hf => by
      rw [Array.mapM_eq_mapM_toList, map_eq_pure_bind]
      simp [hf]
    have h3 := hm _ h1
    have hb : ∀ (m : Sem (Array Value)) (k : Array Value → Sem Value), m.run P w = .ok us.toArray w → (m >>= k).run P w = (k us.toArray).run P w := fun m k hk => by simp [hk]
    exact (hb _ _ h3).trans rfl
  · cases h2 with
    | nil => exact ⟨[], rfl, .nil⟩
    | cons h3 h4 =>
      cases h4 with
      | nil => exact h3
      | cons h5 h6 => exact ⟨_, by simp, .cons h3 (.cons h5 h6)⟩

def passT (ps : List Nm) (rt : Nm → Option Root) : E → Option E
  | .x y => match passA ps rt false y with
    | some y => some (.x y)
    | none => none
  | .t vs => match mapO (passA ps rt false) vs with
    | some vs => some (.t vs)
    | none => none

theorem passT_spec {x : Ctx} {μ : Mu} {I : Imm} {s : St} {a : Act} {w : World} (h : RelX x μ I s a w) {ps : List Nm} {Lc : Lens} (hL : ∀ (j : Nat) ρ, ps[j]? = some ρ → Lc (0, j) = s.L ρ) {y y' : E} {u : Value} (hy : ER w I μ s.L y u) (hp : passT ps s.rt y = some y') :
    ER w (lendI μ I s ps false) (muC ps μ) Lc y' u := by
  cases y with
  | x z =>
    simp only [passT] at hp
    split at hp
    · rename_i z' hz; cases hp; exact passA_spec h hL hy hz
    · cases hp
  | t vs =>
    simp only [passT] at hp
    split at hp
    · rename_i vs' hvs
      cases hp
      obtain ⟨us, e, h2⟩ := hy
      exact ⟨us, e, F2.pass (R := AR w I μ s.L) (S := AR w (lendI μ I s ps false) (muC ps μ) Lc) (fun _ _ _ h1 h2 => passA_spec h hL h1 h2) hvs h2⟩
    · cases hp

/-- The names that a function leaves: those that it was given, and what the results lead to. -/
def outN (rt : Nm → Option Root) (m : Nat) (vs : List A) : List Nm :=
  (List.range m).map (fun j => (0, j)) ++ dd ((reach rt 6 ((List.range m).map (fun j => (0, j)) ++ refE (.t vs))).filter fun ρ => isNew ρ)

def outR (ps : List Nm) (rt : Nm → Option Root) (ρ : Nm) : Option (Option Root) := match rt ρ with
  | some r => match passR ps rt false r with
    | some r' => some (some r')
    | none => none
  | none => some none

def LeE (e e' : E) : Prop := ∀ (w : World) (I : Imm) (μ : Mu) (L : Lens) (u : Value), ER w I μ L e u → ER w I μ L e' u

/-- A nil in a result that becomes a list of one's own. -/
def setAt (y : A) (c : Nat) (d : D) : Option A := match y with
  | .o (.c (.v (.slice none 0 0))) => match c with
    | 0 => some (.o d)
    | _ => none
  | .a cs => match cs[c]? with
    | some (.c (.v (.slice none 0 0))) => some (.a (cs.set c d))
    | _ => none
  | _ => none
def nilV (ep : Nat) : List (Nat × Nat × Nat) → Nat → List A → List (Nm × Root) → List A × List (Nm × Root)
  | [], _, vs, rt => (vs, rt)
  | (i, c, k) :: ow, j, vs, rt => match vs[i]? with
    | some y => match setAt y c (.h (ep, 100 * j) 0 0 0) with
      | some y' => nilV ep ow (j + 1) (vs.set i y') (setR rt [((ep, 100 * j), some (.row k []))])
      | none => nilV ep ow (j + 1) vs rt
    | none => nilV ep ow (j + 1) vs rt

def finW (m : Nat) (okR : E → Prop) (rout : List (Option Root)) (vs : List A) (rt : List (Nm × Root)) : Prop := (match passT (outN (lk rt) m vs) (lk rt) (valsE vs) with
    | some e => okR e
    | none => False) ∧ mapO (outR (outN (lk rt) m vs) (lk rt)) (outN (lk rt) m vs) = some rout
def finV (P : Program) (ow : List (Nat × Nat × Nat)) (rs : List ResultVar) (m : Nat) (okR : E → Prop) (rout : List (Option Root)) (l : LS) : Prop := match mapO (resA P (lk l.env) (lk l.rt)) rs with
  | some vs => match nilV (l.ep + 1) ow 0 vs l.rt with
    | (vs', rt') => finW m okR rout vs' rt'
  | none => False
/-- The same, where it is only said what holds of what is answered. -/
def finWR (m : Nat) (Q : E → List (Option Root) → Prop) (vs : List A) (rt : List (Nm × Root)) : Prop := match passT (outN (lk rt) m vs) (lk rt) (valsE vs), mapO (outR (outN (lk rt) m vs) (lk rt)) (outN (lk rt) m vs) with
    | some e, some rout => Q e rout
    | _, _ => False
def finR (P : Program) (ow : List (Nat × Nat × Nat)) (rs : List ResultVar) (m : Nat) (Q : E → List (Option Root) → Prop) (l : LS) : Prop := match mapO (resA P (lk l.env) (lk l.rt)) rs with
  | some vs => match nilV (l.ep + 1) ow 0 vs l.rt with
    | (vs', rt') => finWR m Q vs' rt'
  | none => False
theorem finR_finV {P : Program} {ow : List (Nat × Nat × Nat)} {rs : List ResultVar} {m : Nat} {Q : E → List (Option Root) → Prop} {l : LS} (h : finR P ow rs m Q l) : ∃ e rout, Q e rout ∧ finV P ow rs m (fun e1 => e1 = e) rout l := by
  unfold finR at h
  unfold finV
  split at h
  · rename_i vs hvs
    simp only at h ⊢
    unfold finWR at h
    unfold finW
    split at h
    · rename_i e rout h1 h2
      refine ⟨e, rout, h, ?_, h2⟩
      rw [h1]
    · exact h.elim
  · exact h.elim

/-- The lists that the results lead to are given away, unless they are the caller's. -/
def retL (P : Program) (rs : List ResultVar) (l : LS) : LS := match mapO (resA P (lk l.env) (lk l.rt)) rs with
  | some vs => l.freeze ((rowsN l (refE (.t vs))).filter fun ρ => isNew ρ)
  | none => l
def endV (P : Program) (H : Hint) (rs : List ResultVar) (m : Nat) (okR : E → Prop) (rout : List (Option Root)) : Exit → LS → Prop
  | .normal, l => match H.own with
    | true => finV P H.ow rs m okR rout l
    | false => force (retL P rs l) fun l' => finV P H.ow rs m okR rout l'
  | .ret, l => match H.own with
    | true => finV P H.ow rs m okR rout l
    | false => force (retL P rs l) fun l' => finV P H.ow rs m okR rout l'
  | _, _ => False
def endR (P : Program) (H : Hint) (rs : List ResultVar) (m : Nat) (Q : E → List (Option Root) → Prop) : Exit → LS → Prop
  | .normal, l => match H.own with
    | true => finR P H.ow rs m Q l
    | false => force (retL P rs l) fun l' => finR P H.ow rs m Q l'
  | .ret, l => match H.own with
    | true => finR P H.ow rs m Q l
    | false => force (retL P rs l) fun l' => finR P H.ow rs m Q l'
  | _, _ => False
theorem endR_endV {P : Program} {H : Hint} {rs : List ResultVar} {m : Nat} {Q : E → List (Option Root) → Prop} {e : Exit} {l : LS} (h : endR P H rs m Q e l) : ∃ r rout, Q r rout ∧ endV P H rs m (fun e1 => e1 = r) rout e l := by
  cases e <;> first | exact h.elim | (unfold endR at h; unfold endV; cases hb : H.own <;> rw [hb] at h <;> exact finR_finV h)
theorem retL_rel {P : Program} {rs : List ResultVar} {x : Ctx} {l : LS} {used : Nat → Bool} {a : Act} {w : World} (h : Rel x (l.den used) a w) : Rel x ((retL P rs l).den used) a w := by
  unfold retL
  split
  · exact h.freeze _
  · exact h

theorem isNew_ne {ρ : Nm} (h : isNew ρ = true) : ρ.1 ≠ 0 := fun h0 => by simp [isNew, h0] at h

theorem dd_mem {ρ : Nm} : ∀ {l : List Nm}, ρ ∈ dd l → ρ ∈ l
  | [], h => by simp [dd] at h
  | σ :: l, h => by
    simp only [dd] at h
    split at h
    · exact List.mem_cons_of_mem _ (dd_mem h)
    · rcases List.mem_cons.1 h with h | h
      · rw [h]; exact List.mem_cons_self
      · exact List.mem_cons_of_mem _ (dd_mem h)

theorem outN_nodup (rt : Nm → Option Root) (m : Nat) (vs : List A) : (outN rt m vs).Nodup := by
  unfold outN
  rw [List.nodup_append]
  refine ⟨?_, dd_nodup _, fun ρ hρ σ hσ e => ?_⟩
  · rw [List.nodup_iff_pairwise_ne, List.pairwise_map]
    refine List.Pairwise.imp ?_ List.nodup_range
    intro i j hij e
    simp only [Prod.mk.injEq, true_and] at e
    exact hij e
  · subst e
    obtain ⟨j, _, rfl⟩ := List.mem_map.1 hρ
    exact isNew_ne (List.mem_filter.1 (dd_mem hσ)).2 rfl

theorem outN_old {rt : Nm → Option Root} {m : Nat} {vs : List A} {j : Nat} (hj : j < m) : (outN rt m vs)[j]? = some (0, j) := by
  unfold outN
  rw [List.getElem?_append_left (by simpa using hj)]
  simp [hj]

theorem F2.setr {α β : Type} {R S : α → β → Prop} {xs : List α} {ys : List β} (h : F2 R xs ys) (hm : ∀ a b, R a b → S a b) {c : Nat} {d x0 : α} (hc : xs[c]? = some x0) (hd : ∀ b, R x0 b → S d b) : F2 S (xs.set c d) ys := by
  refine F2.of (by simpa using F2.length h) fun j p q hp hq => ?_
  rw [List.getElem?_set] at hp
  split at hp
  · rename_i e
    subst e
    split at hp
    · cases hp
      obtain ⟨y, hy, hr⟩ := F2.get h c x0 hc
      rw [hq] at hy; cases hy
      exact hd q hr
    · cases hp
  · obtain ⟨y, hy, hr⟩ := F2.get h j p hp
    rw [hq] at hy; cases hy
    exact hm _ _ hr

theorem setAt_spec {w : World} {I : Imm} {μ μ' : Mu} {L L' : Lens} {y y' : A} {c : Nat} {d : D} {u : Value} (h : setAt y c d = some y') (hm : ∀ d u, DR w I μ L d u → DR w I μ' L' d u) (hd : DR w I μ' L' d (.slice none 0 0)) (hy : AR w I μ L y u) : AR w I μ' L' y' u := by
  have nilv : ∀ u, DR w I μ L (.c (.v (.slice none 0 0))) u → u = .slice none 0 0 := fun u hu => by cases hu; rfl
  unfold setAt at h
  split at h
  · split at h
    · cases h
      rw [nilv u hy]; exact hd
    · cases h
  · split at h
    · rename_i cs hc
      cases h
      obtain ⟨us, e, h2⟩ := hy
      exact ⟨us, e, F2.setr (R := DR w I μ L) (S := DR w I μ' L') h2 hm hc fun b hb => by rw [nilv b hb]; exact hd⟩
    · cases h
  · cases h

theorem valsE_set {w : World} {I : Imm} {μ μ' : Mu} {L L' : Lens} {vs : List A} {i : Nat} {y y' : A} {v : Value} (hi : vs[i]? = some y) (hm : ∀ y u, AR w I μ L y u → AR w I μ' L' y u) (hy : ∀ u, AR w I μ L y u → AR w I μ' L' y' u) (h : ER w I μ L (valsE vs) v) : ER w I μ' L' (valsE (vs.set i y')) v := by
  match vs, h, hi with
  | [], _, hi => simp at hi
  | [z], h, hi =>
    cases i with
    | zero => simp at hi; subst hi; exact hy v h
    | succ i => simp at hi
  | z :: z' :: l, h, hi =>
    obtain ⟨us, e, h2⟩ := h
    have h3 := F2.setr (R := AR w I μ L) (S := AR w I μ' L') (d := y') h2 hm hi hy
    have e2 : valsE ((z :: z' :: l).set i y') = .t ((z :: z' :: l).set i y') := by
      cases i with
      | zero => rfl
      | succ i => cases i <;> rfl
    rw [e2]
    exact ⟨us, e, h3⟩

theorem nilV_spec {x : Ctx} {I : Imm} {a : Act} {w : World} {v : Value} : ∀ (ow : List (Nat × Nat × Nat)) (j : Nat) (vs : List A) (l : LS) (used : Nat → Bool) (μ : Mu), RelX x μ I (l.den used) a w → (∀ i, j ≤ i → used i = false) → ER w I μ (l.den used).L (valsE vs) v →
    ∃ μ' used', RelX x μ' I ((⟨l.env, (nilV l.ep ow j vs l.rt).2, l.ep⟩ : LS).den used') a w ∧ ER w I μ' ((⟨l.env, (nilV l.ep ow j vs l.rt).2, l.ep⟩ : LS).den used').L (valsE (nilV l.ep ow j vs l.rt).1) v
  | [], j, vs, l, used, μ, hX, _, hE => ⟨μ, used, hX, hE⟩
  | (i, c, k) :: ow, j, vs, l, used, μ, hX, hu, hE => by
    simp only [nilV]
    split
    · rename_i y hy
      split
      · rename_i y' hy'
        have h1 := hX.nilRoot (d := j) (hu j (Nat.le_refl j)) 0 k
        have hfree := hX.free (j := 0) (d := j) (by omega) (hu j (Nat.le_refl j))
        simp only [Nat.add_zero] at hfree
        have hrt : ∀ ρ, lk (setR l.rt [((l.ep, 100 * j), some (.row k []))]) ρ = upd (lk l.rt) (l.ep, 100 * j) (some (.row k [])) ρ := fun ρ => by rw [lk_setR]; rfl
        have hst : (⟨l.env, setR l.rt [((l.ep, 100 * j), some (.row k []))], l.ep⟩ : LS).den (upd used j true) = { (l.den used) with rt := upd (l.den used).rt ((l.den used).ep, 100 * j) (some (.row k [])), used := upd (l.den used).used j true } := by
          simp only [LS.den]
          congr 1
          funext ρ
          exact hrt ρ
        have h2 : RelX x (upd μ (l.ep, 100 * j) (some ⟨none, 0, k, 0⟩)) I ((⟨l.env, setR l.rt [((l.ep, 100 * j), some (.row k []))], l.ep⟩ : LS).den (upd used j true)) a w := by rw [hst]; exact h1
        have hK : Kept μ (l.den used).L (upd μ (l.ep, 100 * j) (some ⟨none, 0, k, 0⟩)) ((⟨l.env, setR l.rt [((l.ep, 100 * j), some (.row k []))], l.ep⟩ : LS).den (upd used j true)).L := fun ρ f hf => by
          have hne : ρ ≠ (l.ep, 100 * j) := fun e => by
            rw [e] at hf
            exact absurd (hf.symm.trans hfree) (by simp)
          refine ⟨f, by rw [upd_ne _ _ hne]; exact hf, fun l' hl' => ⟨l', ?_, Nat.le_refl _, fun _ => rfl⟩⟩
          have e1 : lk (setR l.rt [((l.ep, 100 * j), some (.row k []))]) ρ = lk l.rt ρ := by rw [hrt, upd_ne _ _ hne]
          simpa [St.L, LS.den, e1] using hl'
        have hm : ∀ d u, DR w I μ (l.den used).L d u → DR w I (upd μ (l.ep, 100 * j) (some ⟨none, 0, k, 0⟩)) ((⟨l.env, setR l.rt [((l.ep, 100 * j), some (.row k []))], l.ep⟩ : LS).den (upd used j true)).L d u :=
          fun d u hd => DR.mono (Stays.refl _ _) hK hd
        have hd : DR w I (upd μ (l.ep, 100 * j) (some ⟨none, 0, k, 0⟩)) ((⟨l.env, setR l.rt [((l.ep, 100 * j), some (.row k []))], l.ep⟩ : LS).den (upd used j true)).L (.h (l.ep, 100 * j) 0 0 0) (.slice none 0 0) := by
          refine ⟨rfl, ⟨none, 0, k, 0⟩, upd_same _ _ _, fun n hn => ?_⟩
          simp only [St.L, LS.den, hrt, upd, if_true, Option.map_some, Root.len, List.length_nil, Option.some.injEq] at hn
          subst hn
          exact ⟨Nat.le_refl _, fun _ => ⟨Nat.le_refl _, .inr (.inl ⟨rfl, rfl, rfl, rfl⟩)⟩⟩
        exact nilV_spec ow (j + 1) (vs.set i y') ⟨l.env, setR l.rt [((l.ep, 100 * j), some (.row k []))], l.ep⟩ (upd used j true) _ h2 (fun i hi => by rw [upd_ne _ _ (by omega)]; exact hu i (by omega))
          (valsE_set hy (fun y u hy => AR.mono (Stays.refl _ _) hK hy) (fun u hu => setAt_spec hy' hm hd hu) hE)
      · exact nilV_spec ow (j + 1) vs l used μ hX (fun i hi => hu i (by omega)) hE
    · exact nilV_spec ow (j + 1) vs l used μ hX (fun i hi => hu i (by omega)) hE

theorem VFun_end {P : Program} {f : FuncId} {fn : Func} {c : Code} (hf : P.funcs[f]? = some fn) (hb : fn.body = some c) (hnm : (fn.name == "runtime.NumGoroutine") = false) {n : Nat} (hn : fn.ntmps = n) {rs : List ResultVar} (hrs : fn.results.toList = rs) (H : Hint) {args : List E} {rin : List Root} {res : E} {rout : List (Option Root)} {okR : E → Prop} (hokR : ∀ e, okR e → LeE e res)
    (hlen : args.length ≤ n) {ex : Exit} {lz : LS} (hq : endV P H rs rin.length okR rout ex lz) (hS : Sem1 P n c (startV args rin) ex lz) : VFun P f args (rin.map some) res rout := by
  subst hn hrs
  refine ⟨⟨fn, c, hf, hb, hnm⟩, fun w I μ us hargs hroots hI => ?_⟩
  have hul := F2.length hargs
  have hown : ∀ b, ownOf μ b → b < w.heap.size ∧ ∀ o, ¬ I b o := fun b ⟨ρ, g, hg, hb⟩ => by
    obtain ⟨h1, h2⟩ := hroots.dom ρ.1 ρ.2 g hg
    simp only [List.length_map] at h2
    obtain ⟨g', hg', _, h3⟩ := hroots.root ρ.2 rin[ρ.2] (by simp [h2])
    rw [← h1, hg] at hg'; cases hg'
    exact ⟨(h3 b hb).1, (h3 b hb).2.1⟩
  let x : Ctx := ⟨w, I, ownOf μ, fn.ntmps, μ, lensL (rin.map some), fun b o hi => ⟨fun hb => (hown b hb).2 o hi, hI b o hi⟩, fun b hb => (hown b hb).1⟩
  have hL : ((startV args rin).den fun _ => false).L = lensL (rin.map some) := by
    funext ρ
    simp only [St.L, LS.den, startV, lk_rtOf, lensL, Nat.zero_le, and_true, Nat.sub_zero, List.getElem?_map]
    split
    · cases rin[ρ.2]? <;> rfl
    · rfl
  have hrt : ∀ ρ r, ((startV args rin).den fun _ => false).rt ρ = some r → ρ.1 = 0 ∧ (rin.map some)[ρ.2]? = some (some r) := fun ρ r hr => by
    simp only [LS.den, startV, lk_rtOf, Nat.zero_le, and_true, Nat.sub_zero] at hr
    split at hr
    · rename_i h0; exact ⟨h0, by simp [hr]⟩
    · cases hr
  have hst : Rel x ((startV args rin).den fun _ => false) { tmps := us.toArray ++ Array.replicate (fn.ntmps - us.toArray.size) undef, defers := [] } w := by
    refine ⟨μ, I, rfl, by simp [x]; omega, fun i e he => ?_, fun ρ r hr => ?_, fun ρ ρ' g g' b h1 h2 h3 h4 h5 h6 => ?_, fun g c f hf => .inl ?_, fun _ _ h => h, hI, fun _ _ h => .inl h, Gr.refl _ _, ?_⟩
    · obtain ⟨_, h1⟩ := lk_envOf (show lk (envOf 0 args) i = some e from he)
      obtain ⟨u, hu, hr⟩ := F2.get hargs i e (by simpa using h1)
      have hi : i < us.length := (List.getElem?_eq_some_iff.1 hu).1
      refine ⟨u, ?_, by rw [hL]; exact hr⟩
      rw [Array.getElem?_append_left (by simpa using hi)]
      simpa using hu
    · obtain ⟨h0, h1⟩ := hrt ρ r hr
      obtain ⟨g, hg, hR, hB⟩ := hroots.root ρ.2 r h1
      exact ⟨g, by rw [← hg, ← h0], by rw [hL]; exact hR, fun b hb => ⟨(hB b hb).1, (hB b hb).2.1, .inl ⟨(0, ρ.2), g, hg, hb⟩⟩⟩
    · obtain ⟨r, hr⟩ := Option.ne_none_iff_exists'.1 h1
      obtain ⟨r', hr'⟩ := Option.ne_none_iff_exists'.1 h2
      obtain ⟨a0, a1⟩ := hrt ρ r hr
      obtain ⟨b0, b1⟩ := hrt ρ' r' hr'
      have := hroots.apart ρ.2 ρ'.2 r r' g g' b a1 b1 (by rw [← h3, ← a0]) (by rw [← h4, ← b0]) h5 h6
      exact Prod.ext (a0.trans b0.symm) this
    · have := (hroots.dom g c f hf).1
      show g < 1
      omega
    · rw [hL]; exact Kept.refl _ _
  have hok : Okx x fn.ntmps := ⟨rfl, fun g c f hf => (hroots.dom g c f hf).1⟩
  refine calls_of_wp hf hb (wp_mono (hS x hok _ _ _ hst) ?_)
  rintro e a' w' ⟨rfl, used, hR⟩
  have hfin : (e = .normal ∨ e = .ret) ∧ ∃ l1, Rel x (l1.den used) a' w' ∧ finV P H.ow fn.results.toList rin.length okR rout l1 := by
    have key : ∀ own : Bool, (match own with | true => finV P H.ow fn.results.toList rin.length okR rout lz | false => force (retL P fn.results.toList lz) fun l' => finV P H.ow fn.results.toList rin.length okR rout l') → ∃ l1, Rel x (l1.den used) a' w' ∧ finV P H.ow fn.results.toList rin.length okR rout l1 := by
      intro own hq
      cases own with
      | true => exact ⟨lz, hR, hq⟩
      | false => exact ⟨_, retL_rel hR, hq⟩
    cases e <;> first | exact ⟨.inl rfl, key _ hq⟩ | exact ⟨.inr rfl, key _ hq⟩ | exact hq.elim
  obtain ⟨he, l1, hR, hfin⟩ := hfin
  clear hq
  revert hR hfin
  generalize l1 = l
  intro hR hfin
  obtain ⟨μ', I', hX⟩ := hR
  have goal : a'.defers = [] ∧ ∃ v, (results fn a'.tmps).run P w' = .ok v w' ∧ ∃ v' I' μ', Ending.returned v = .returned v' ∧ ER w' I' μ' (lensL rout) res v' ∧ Roots w' I' μ' rout (fun b => ownOf μ b ∨ w.heap.size ≤ b) ∧ Stays w I w' I' ∧ Gr w w' (ownOf μ) ∧
      (∀ b o, I' b o → b < w'.heap.size ∧ (I b o ∨ ownOf μ b ∨ w.heap.size ≤ b)) ∧
      (∀ j r r' f, (rin.map some)[j]? = some (some r) → rout[j]? = some (some r') → μ (0, j) = some f → r.len ≤ r'.len ∧ (r.len = r'.len → μ' (0, j) = some f)) := by
    refine ⟨hX.defers, ?_⟩
    unfold finV at hfin
    split at hfin
    · rename_i vs hvs
      simp only at hfin
      obtain ⟨v, hv, hE⟩ := run_results hX hvs
      obtain ⟨l2, used2, μ2, vs2, hX2, hE2, hfin2⟩ : ∃ (l2 : LS) (used2 : Nat → Bool) (μ2 : Mu) (vs2 : List A), RelX x μ2 I' (l2.den used2) a' w' ∧ ER w' I' μ2 (l2.den used2).L (valsE vs2) v ∧ finW rin.length okR rout vs2 l2.rt := by
        obtain ⟨μ2, used2, hX2, hE2⟩ := nilV_spec H.ow 0 vs ⟨l.env, l.rt, l.ep + 1⟩ (fun _ => false) μ' hX.epoch (fun _ _ => rfl) hE
        exact ⟨_, _, _, _, hX2, hE2, hfin⟩
      clear hE hX hfin hvs
      revert hX2 hE2 hfin2
      generalize l2 = l, used2 = used, μ2 = μ', vs2 = vs
      intro hX hE hfin
      obtain ⟨hp0, ho⟩ := hfin
      have hp1 : ∃ e1, passT (outN (lk l.rt) rin.length vs) (lk l.rt) (valsE vs) = some e1 ∧ okR e1 := by
        cases hpt : passT (outN (lk l.rt) rin.length vs) (lk l.rt) (valsE vs) with
        | none => rw [hpt] at hp0; exact hp0.elim
        | some e1 => rw [hpt] at hp0; exact ⟨e1, rfl, hp0⟩
      obtain ⟨e1, hp, hok1⟩ := hp1
      clear hp0
      generalize hps : outN (lk l.rt) rin.length vs = ps at hp ho
      have hnd : ps.Nodup := hps ▸ outN_nodup _ _ _
      have hF := mapO_spec ho
      have hlen := F2.length hF
      have hLc : ∀ (j : Nat) ρ, ps[j]? = some ρ → lensL rout (0, j) = (l.den used).L ρ := fun j ρ hj => by
        obtain ⟨q, hq, hρ⟩ := F2.get hF j ρ hj
        simp only [lensL, if_true, hq, St.L, LS.den]
        unfold outR at hρ
        split at hρ
        · rename_i r hr
          split at hρ
          · rename_i r' hr'
            cases hρ
            rw [hr]
            have : r'.len = r.len := by
              obtain ⟨g, hg, hRR, _⟩ := hX.root ρ r hr
              cases r with
              | row k xs => simp only [passR, Option.some.injEq] at hr'; rw [← hr']
              | bx xs =>
                simp only [passR] at hr'
                split at hr'
                · rename_i xs' hxs; cases hr'; exact mapO_len hxs
                · cases hr'
              | it b p => simp only [passR, Option.some.injEq] at hr'; rw [← hr']
              | mp es => simp only [passR, Option.some.injEq] at hr'; rw [← hr']
            simp [this]
          · cases hρ
        · rename_i hr
          cases hρ
          rw [hr]; rfl
      have hII : ∀ b o, lendI μ' I' (l.den used) ps false b o ↔ I' b o := fun b o => ⟨fun h => (by
        rcases h with h | ⟨h, _⟩
        · exact h
        · cases h), fun h => .inl h⟩
      refine ⟨v, hv, v, lendI μ' I' (l.den used) ps false, muC ps μ', rfl, hokR e1 hok1 _ _ _ _ _ (passT_spec hX hLc hE hp), ⟨fun j r hj => ?_, fun j j' r r' g g' b h1 h2 h3 h4 h5 h6 => ?_, fun g c f hf => ?_⟩, fun b o hb => ⟨.inl (hX.imm0 b o hb), ?_⟩, hX.gr, fun b o hb => ?_, fun j r r' g h1 h2 h3 => ?_⟩
      · have hjl : j < ps.length := by rw [hlen]; exact (List.getElem?_eq_some_iff.1 hj).1
        obtain ⟨q, hq, hρ⟩ := F2.get hF j _ (List.getElem?_eq_getElem hjl)
        rw [hj] at hq; cases hq
        generalize hσ : ps[j] = ρ at hρ
        have hpj : ps[j]? = some ρ := by rw [List.getElem?_eq_getElem hjl, hσ]
        unfold outR at hρ
        split at hρ
        · rename_i r0 hr0
          split at hρ
          · rename_i r1 hr1
            cases hρ
            obtain ⟨g, hg, hRR, hB⟩ := hX.root ρ r0 hr0
            exact ⟨g, by simp [muC, hpj, hg], (passR_spec hX hLc hRR hr1).1, fun b hb => ⟨(hB b hb).1, fun o ho => (hB b hb).2.1 o ((hII b o).1 ho), (hB b hb).2.2⟩⟩
          · cases hρ
        · cases hρ
      · have nm : ∀ j r g, rout[j]? = some (some r) → muC ps μ' (0, j) = some g → ∃ ρ, ps[j]? = some ρ ∧ (l.den used).rt ρ ≠ none ∧ μ' ρ = some g := fun j r g hj hg => by
          have hjl : j < ps.length := by rw [hlen]; exact (List.getElem?_eq_some_iff.1 hj).1
          obtain ⟨q, hq, hρ⟩ := F2.get hF j _ (List.getElem?_eq_getElem hjl)
          rw [hj] at hq; cases hq
          refine ⟨ps[j], List.getElem?_eq_getElem hjl, fun hn => ?_, ?_⟩
          · have hn' : lk l.rt ps[j] = none := hn
            unfold outR at hρ
            rw [hn'] at hρ
            cases hρ
          · simpa [muC, hjl] using hg
        obtain ⟨ρ, a1, a2, a3⟩ := nm j r g h1 h3
        obtain ⟨ρ', b1, b2, b3⟩ := nm j' r' g' h2 h4
        have := hX.apart ρ ρ' g g' b a2 b2 a3 b3 h5 h6
        subst this
        have e1 := ix_of hnd a1
        have e2 := ix_of hnd b1
        rw [e1] at e2; cases e2; rfl
      · unfold muC at hf
        split at hf
        · rename_i h0
          split at hf
          · rename_i σ hσ
            exact ⟨h0, by rw [← hlen]; exact (List.getElem?_eq_some_iff.1 hσ).1⟩
          · cases hf
        · cases hf
      · have h1 := x.hI b o hb
        have := hX.gr.block b h1.2 h1.1
        simp only [World.cell?]
        rw [this]
      · have hb' := (hII b o).1 hb
        exact ⟨hX.immB b o hb', hX.immN b o hb'⟩
      · have hj : j < rin.length := by
          have := (List.getElem?_eq_some_iff.1 h1).1
          simpa using this
        have hpj : ps[j]? = some (0, j) := hps ▸ outN_old hj
        obtain ⟨g', hg', h4⟩ := hX.kept (0, j) g h3
        have hl' : (l.den used).L (0, j) = some r'.len := by
          rw [← hLc j _ hpj]
          simp [lensL, h2]
        obtain ⟨n, hn, h5, h6⟩ := h4 _ hl'
        have : n = r.len := by
          have e : x.L0 (0, j) = some r.len := by show lensL (rin.map some) (0, j) = _; simp only [lensL, if_true, h1]
          rw [e] at hn
          cases hn; rfl
        subst this
        exact ⟨h5, fun e => by simp only [muC, if_true, hpj, hg', h6 e.symm]⟩
    · exact hfin.elim
  rcases he with rfl | rfl
  · exact goal
  · exact goal

theorem VFun_gen {P : Program} {f : FuncId} {fn : Func} {c : Code} (hf : P.funcs[f]? = some fn) (hb : fn.body = some c) (hnm : (fn.name == "runtime.NumGoroutine") = false) {n : Nat} (hn : fn.ntmps = n) {rs : List ResultVar} (hrs : fn.results.toList = rs) (H : Hint) (hH : H.ok P) {args : List E} {rin : List Root} {res : E} {rout : List (Option Root)} {okR : E → Prop} (hokR : ∀ e, okR e → LeE e res)
    (hlen : args.length ≤ n) (hwf : wfCode H.an n c = true) (h : force (startV args rin) fun l => vcode P H n c l (endV P H rs rin.length okR rout)) : VFun P f args (rin.map some) res rout := by
  obtain ⟨ex, lz, hq, hS⟩ := vcode_sound hH c _ _ hwf h
  exact VFun_end hf hb hnm hn hrs H hokR hlen hq hS
theorem VFun_of {P : Program} {f : FuncId} {fn : Func} {c : Code} (hf : P.funcs[f]? = some fn) (hb : fn.body = some c) (hnm : (fn.name == "runtime.NumGoroutine") = false) {n : Nat} (hn : fn.ntmps = n) {rs : List ResultVar} (hrs : fn.results.toList = rs) (H : Hint) (hH : H.ok P) {args : List E} {rin : List Root} {res : E} {rout : List (Option Root)}
    (hlen : args.length ≤ n) (hwf : wfCode H.an n c = true) (h : force (startV args rin) fun l => vcode P H n c l (endV P H rs rin.length (fun e => e = res) rout)) : VFun P f args (rin.map some) res rout :=
  VFun_gen hf hb hnm hn hrs H hH (fun e he => by subst he; exact fun _ _ _ _ _ h => h) hlen hwf h
/-- Of what is answered it is only said what holds of it. -/
theorem VFun_ex {P : Program} {f : FuncId} {fn : Func} {c : Code} (hf : P.funcs[f]? = some fn) (hb : fn.body = some c) (hnm : (fn.name == "runtime.NumGoroutine") = false) {n : Nat} (hn : fn.ntmps = n) {rs : List ResultVar} (hrs : fn.results.toList = rs) (H : Hint) (hH : H.ok P) {args : List E} {rin : List Root} {T : Type} {enc : T → E × List (Option Root)} {post : T → Prop}
    (hlen : args.length ≤ n) (hwf : wfCode H.an n c = true) (h : force (startV args rin) fun l => vcode P H n c l (endR P H rs rin.length fun e rout => ∃ t, post t ∧ LeE e (enc t).1 ∧ rout = (enc t).2)) : ∃ t, post t ∧ VFun P f args (rin.map some) (enc t).1 (enc t).2 := by
  obtain ⟨ex, lz, hq, hS⟩ := vcode_sound hH c _ _ hwf h
  obtain ⟨r, rout, ⟨t, h1, h2, rfl⟩, h4⟩ := endR_endV hq
  exact ⟨t, h1, VFun_end hf hb hnm hn hrs H (fun e he => by subst he; exact h2) hlen h4 hS⟩

end Go.Proofs.YtcgkhljolflenaaGreatW.V

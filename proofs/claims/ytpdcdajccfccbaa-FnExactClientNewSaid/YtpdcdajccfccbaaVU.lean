/- From operations to code and functions. No condition but each theorem's own. -/
import Derived.Test.YtpdcdajccfccbaaVT
namespace Go.Proofs.YtpdcdajccfccbaaW.V
open Go

/-! ### Guards -/
def isU : E → Bool
  | .t [] => true
  | _ => false

def gdE (ops : Array Oper) (env : Nat → Option E) (o : Oper) : Option Bool := match o.guard with
  | none => some true
  | some (j, want) => match (ops[j]?).bind (·.dst) with
    | some t => match env t with
      | some e => match isB e, isU e with
        | some b, _ => some (b == want)
        | none, true => some false
        | none, false => none
      | none => none
    | none => none

theorem gdE_spec {x : Ctx} {μ : Mu} {I : Imm} {s : St} {a : Act} {w : World} (h : RelX x μ I s a w) {ops : Array Oper} {o : Oper} {b : Bool} (hg : gdE ops s.env o = some b) : Region.wanted o (yielded ops a.tmps) = b := by
  unfold gdE at hg
  unfold Region.wanted
  cases hgd : o.guard with
  | none => rw [hgd] at hg; simp at hg ⊢; exact hg
  | some p =>
    obtain ⟨j, want⟩ := p
    rw [hgd] at hg
    simp only at hg ⊢
    split at hg
    · rename_i t ht
      split at hg
      · rename_i e he
        obtain ⟨u, hu, hr⟩ := h.env t e he
        split at hg
        · rename_i t' _ hb
          cases hg
          have := isB_spec hb
          subst this
          have hu' := sc_er hr
          subst hu'
          simp [yielded, ht, hu]
        · rename_i _ hU
          cases hg
          unfold isU at hU
          split at hU
          · obtain ⟨us, e1, h2⟩ := hr
            cases h2
            simp [yielded, ht, hu, e1]
          · cases hU
        · cases hg
      · cases hg
    · cases hg

def skipEff : Eff := ⟨some (.t []), [], false, True⟩

/-- One operation of a region, be it wanted or not. -/
inductive Step (P : Program) (ops : Array Oper) (env : Nat → Option E) (rt : Nm → Option Root) (ep : Nat) (o : Oper) : Eff → Prop
  | run {f : Eff} (hg : gdE ops env o = some true) (hD : Does P env rt ep o f) : Step P ops env rt ep o f
  | skip (hg : gdE ops env o = some false) : Step P ops env rt ep o skipEff

theorem Step.sound {P : Program} {ops : Array Oper} {x : Ctx} {μ : Mu} {I : Imm} {s : St} {a : Act} {w : World} (h : RelX x μ I s a w) {o : Oper} {f : Eff} (hS : Step P ops s.env s.rt s.ep o f) (hd : ∀ d, o.dst = some d → d < x.n)
    (hu : f.new = true → ∀ d, o.dst = some d → s.used d = false) {K : Act → World → Prop} {Q : Exit → Act → World → Prop} (hK : ∀ a' w', Rel x (s.app o.dst f) a' w' → K a' w') :
    if Region.wanted o (yielded ops a.tmps) then o.wp P a w K Q ∨ (o.asks P a w ∧ LetsOut Q) else K (a.put o.dst undef) w := by
  cases hS with
  | run hg hD =>
    rw [gdE_spec h hg, if_pos rfl]
    exact .inl (Oper.wp_mono hK (hD.sound h hd hu))
  | skip hg =>
    rw [gdE_spec h hg, if_neg (by simp)]
    refine hK _ _ ⟨μ, I, ?_⟩
    cases hdst : o.dst with
    | none => simpa [St.app, skipEff, Act.put] using h
    | some d => simpa [St.app, skipEff] using h.put (e := .t []) (u := undef) (hd d hdst) ⟨[], rfl, .nil⟩

/-! ### Static checks -/
def wfDst (n : Nat) : List Nat → List Oper → Bool
  | _, [] => true
  | seen, o :: l => match o.dst with
    | some d => decide (d < n) && !seen.contains d && wfDst n (d :: seen) l
    | none => wfDst n seen l

/-! ### The next state, reckoned before one goes on -/
def nf (l : LS) : Option LS := some l
theorem nf_mk {env : List (Nat × E)} {rt : List (Nm × Root)} {ep : Nat} : nf ⟨env, rt, ep⟩ = some ⟨env, rt, ep⟩ := rfl
def force (l : LS) (K : LS → Prop) : Prop := match nf l with
  | some l' => K l'
  | none => False

/-! ### Calls -/
def FnOk (P : Program) (f : FuncId) : Prop := ∃ fn b, P.funcs[f]? = some fn ∧ fn.body = some b ∧ (fn.name == "runtime.NumGoroutine") = false

def VFun (P : Program) (f : FuncId) (args : List E) (rin : List (Option Root)) (res : E) (rout : List (Option Root)) : Prop := FnOk P f ∧ VSem P f args rin res rout

/-- No name twice. -/
def dd : List Nm → List Nm
  | [] => []
  | ρ :: l => if ρ ∈ dd l then dd l else ρ :: dd l
theorem dd_nodup : ∀ (l : List Nm), (dd l).Nodup
  | [] => by simp [dd]
  | ρ :: l => by
    simp only [dd]
    split
    · exact dd_nodup l
    · rename_i h; exact List.nodup_cons.2 ⟨h, dd_nodup l⟩

def ptrD : D → List Nm
  | .p ρ _ _ _ => [ρ]
  | _ => []
def refD : D → List Nm
  | .p ρ _ _ _ => [ρ]
  | .h ρ _ _ _ => [ρ]
  | _ => []
def ptrE : E → List Nm
  | .x (.o d) => ptrD d
  | .x (.a cs) => cs.flatMap ptrD
  | .t _ => []
def refE : E → List Nm
  | .x (.o d) => refD d
  | .x (.a cs) => cs.flatMap refD
  | .t vs => vs.flatMap fun y => match y with
    | .o d => refD d
    | .a cs => cs.flatMap refD
def refR : Root → List Nm
  | .row _ _ => []
  | .bx xs => xs.flatMap fun c => c.flatMap refD
/-- What hangs on names, through boxes. -/
def reach (rt : Nm → Option Root) : Nat → List Nm → List Nm
  | 0, _ => []
  | n + 1, ρs => ρs.flatMap fun ρ => ρ :: (match rt ρ with
    | some r => reach rt n (refR r)
    | none => [])

/-- The roots that are passed to a call: what pointers point to, and what is said to be passed. -/
def passN (rt : Nm → Option Root) (es : List E) (md : List Nat) : List Nm :=
  dd (reach rt 6 (es.flatMap ptrE ++ md.flatMap fun i => match es[i]? with
    | some e => refE e
    | none => []))

def rootsP (rt : Nm → Option Root) (ps : List Nm) (lend : Bool) : Option (List Root) := mapO (fun ρ => match rt ρ with
  | some r => passR ps rt lend r
  | none => none) ps

/-- What is known of a function: which arguments' lists are handed over to be written; what it answers, what it leaves, what is to be shown. -/
structure FM where
  md : List Nat
  m : List E → List Root → Option (E × List (Option Root) × Prop)
structure Hint where
  fs : List (FuncId × FM)
  kp : List (Nat × List Nat)
  an : List (Nat × List Nat)
  fz : List (Nat × List Nat) := []
  own : Bool := false
def FM.ok (P : Program) (f : FuncId) (F : FM) : Prop := ∀ args rin res rout pre, F.m args rin = some (res, rout, pre) → pre → VFun P f args (rin.map some) res rout
structure Hint.ok (P : Program) (H : Hint) : Prop where
  fs : ∀ f F, lk H.fs f = some F → F.ok P f
  mix : P.follows .mixedOrders = true

/-- What a call does, given what the function does. -/
def callK (F : FM) (l : LS) (dst : Option Nat) (ps : List Nm) (lend : Bool) (rin : List Root) (args : List E) (K : LS → List (Nm × Option Root) → Prop) : Prop := match F.m args rin with
  | some (res, rout, pre) => pre ∧ (ps.length ≤ rout.length ∧ rout.length - ps.length ≤ 100 ∧ (match decide (ps.length < rout.length), dst with | true, none => False | _, _ => True) ∧ (match lend with | true => noShE res ∧ ∀ r, some r ∈ rout → noShR r | false => True)) ∧
    match (callN l.ep (dst.getD 0) ps rout.length).zip (rout.map (Option.map (backR (callN l.ep (dst.getD 0) ps rout.length)))) with
    | rts => force (l.app dst (some (backE (callN l.ep (dst.getD 0) ps rout.length) res)) rts) fun l' => K l' rts
  | none => False

/-- The values that go with a function value, as plain ones. -/
def ofVs : List Value → Option (List E)
  | [] => some []
  | v :: l => match ofV v, ofVs l with
    | some e, some es => some (e :: es)
    | _, _ => none
theorem ofVs_spec : ∀ {l : List Value} {es : List E}, ofVs l = some es → l.filterMap ofV = es ∧ es.length = l.length
  | [], es, h => by simp only [ofVs, Option.some.injEq] at h; subst h; exact ⟨rfl, rfl⟩
  | v :: l, es, h => by
    simp only [ofVs] at h
    split at h
    · rename_i e es' h1 h2
      cases h
      obtain ⟨h3, h4⟩ := ofVs_spec h2
      exact ⟨by rw [List.filterMap_cons_some h1, h3], by simp [h4]⟩
    · cases h

def vcall (H : Hint) (dst : Option Nat) (fo : Operand) (zs : List Operand) (rd : Nm → Option Root) (l : LS) (K : LS → List (Nm × Option Root) → Prop) : Prop := match evE (lk l.env) fo with
  | some (.x (.o (.c (.v (.func (.func f) fs cs))))) => match lk H.fs f, mapO (evE (lk l.env)) zs, ofVs fs.toList, ofVs cs.toList with
    | some F, some es, some e1, some e2 => match passN rd es F.md with
      | ps => match rootsP rd ps false, mapO (passE ps rd false) (e1 ++ es ++ e2) with
        | some rin, some args => callK F l dst ps false rin args K
        | _, _ => match rootsP rd ps true, mapO (passE ps rd true) (e1 ++ es ++ e2) with
          | some rin, some args => callK F l dst ps true rin args K
          | _, _ => False
    | _, _, _, _ => False
  | _ => False

def vexec (P : Program) (H : Hint) (o : Oper) (rd : Nm → Option Root) (l : LS) (K : LS → List (Nm × Option Root) → Prop) : Prop := match o.op with
  | .call { callee := .value fo, args := zs, .. } => vcall H o.dst fo zs.toList rd l K
  | _ => match core P (lk l.env) rd l.ep o with
    | some f => f.ob ∧ force (l.app o.dst f.val f.rts) fun l' => K l' f.rts
    | none => False

def vop (P : Program) (H : Hint) (ops : Array Oper) (o : Oper) (l : LS) (K : LS → Prop) : Prop := match o.guard with
  | none => vexec P H o (lk l.rt) l fun l' _ => K l'
  | some (j, want) => match (ops[j]?).bind (·.dst) with
    | some t => match lk l.env t with
      | some (.x (.o (.c (.v (.bool b))))) => if b = want then vexec P H o (lk l.rt) (l.put t (sc (.bool want))) (fun l' _ => K l') else force ((l.put t (sc (.bool !want))).app o.dst (some (.t [])) []) K
      | some (.t []) => force (l.app o.dst (some (.t [])) []) K
      | _ => False
    | none => False

def vops (P : Program) (H : Hint) (ops : Array Oper) : List Oper → LS → (LS → Prop) → Prop
  | [], l, K => K l
  | o :: rest, l, K => vop P H ops o l fun l' => vops P H ops rest l' K

section
variable {P : Program} {H : Hint} {ops : Array Oper}

theorem rootsP_spec {rt : Nm → Option Root} {ps qs : List Nm} {lend : Bool} : ∀ {rin : List Root}, mapO (fun ρ => match rt ρ with | some r => passR qs rt lend r | none => none) ps = some rin → F2 (fun ρ r' => ∃ r, rt ρ = some r ∧ passR qs rt lend r = some r') ps rin := by
  intro rin h
  refine F2.mono (fun ρ r' hr => ?_) (mapO_spec h)
  split at hr
  · rename_i r hρ; exact ⟨r, hρ, hr⟩
  · cases hr

theorem vcall_step (hH : H.ok P) {o : Oper} {rd : Nm → Option Root} {l : LS} {K : LS → List (Nm × Option Root) → Prop} {fo : Operand} {zs : Array Operand} {ts : Array TypeId} (ho : o.op = .call { callee := .value fo, args := zs, argTypes := ts }) (h : vcall H o.dst fo zs.toList rd l K) :
    ∃ f : Eff, Does P (lk l.env) rd l.ep o f ∧ K (l.app o.dst f.val f.rts) f.rts := by
  unfold vcall at h
  split at h
  · rename_i f fs cs hfo
    split at h
    · rename_i F es e1 e2 hF hes h1 h2
      obtain ⟨hf1, hl1⟩ := ofVs_spec h1
      obtain ⟨hf2, hl2⟩ := ofVs_spec h2
      have key : ∀ (lend : Bool) (rin : List Root) (args : List E), rootsP rd (passN rd es F.md) lend = some rin → mapO (passE (passN rd es F.md) rd lend) (e1 ++ es ++ e2) = some args →
          callK F l o.dst (passN rd es F.md) lend rin args K → ∃ f : Eff, Does P (lk l.env) rd l.ep o f ∧ K (l.app o.dst f.val f.rts) f.rts := by
        intro lend rin args h1 h2 h3
        unfold callK at h3
        split at h3
        · rename_i res rout pre hm
          obtain ⟨hp, ⟨a1, a2, a3, a4⟩, hK⟩ := h3
          obtain ⟨hok, hsem⟩ := hH.fs f F hF args rin res rout pre hm hp
          exact ⟨_, Does.call (ob := True) (fs := fs.toList) (cs := cs.toList) ho (by rw [Array.toArray_toList, Array.toArray_toList]; exact hfo) hes hok (dd_nodup _) (rootsP_spec h1) (by rw [hf1, hf2]; exact h2) ⟨by rw [hf1, hl1], by rw [hf2, hl2]⟩ hsem a1 a2 (fun hlt hd => by
            rw [hd] at a3
            cases hdec : decide ((passN rd es F.md).length < rout.length) with
            | true => rw [hdec] at a3; exact a3
            | false => exact absurd hlt (of_decide_eq_false hdec)) (fun hl => by subst hl; exact a4), hK⟩
        · exact h3.elim
      simp only at h
      split at h
      · rename_i rin args h1 h2; exact key false rin args h1 h2 h
      · split at h
        · rename_i rin args h1 h2; exact key true rin args h1 h2 h
        · exact h.elim
    · exact h.elim
  · exact h.elim

theorem vexec_step (hH : H.ok P) {o : Oper} {rd : Nm → Option Root} {l : LS} {K : LS → List (Nm × Option Root) → Prop} (h : vexec P H o rd l K) : ∃ f : Eff, Does P (lk l.env) rd l.ep o f ∧ K (l.app o.dst f.val f.rts) f.rts := by
  unfold vexec at h
  split at h
  · rename_i ho; exact vcall_step hH ho h
  · split at h
    · rename_i f hf; exact ⟨f, core_does hf h.1, h.2⟩
    · exact h.elim

theorem put_same {l : LS} {t : Nat} {e : E} (h : lk l.env t = some e) : lk (l.put t e).env = lk l.env := by
  funext i
  simp only [LS.put, lk]
  split
  · rename_i hi; subst hi; exact h.symm
  · rfl

theorem vop_step (hH : H.ok P) {o : Oper} {l : LS} {K : LS → Prop} (h : vop P H ops o l K) : ∃ (f : Eff) (l1 : LS), Step P ops (lk l.env) (lk l.rt) l.ep o f ∧ lk l1.env = lk l.env ∧ l1.rt = l.rt ∧ l1.ep = l.ep ∧ K (l1.app o.dst f.val f.rts) := by
  unfold vop at h
  split at h
  · rename_i hg
    obtain ⟨f, hD, hK⟩ := vexec_step hH h
    exact ⟨f, l, .run (by simp [gdE, hg]) hD, rfl, rfl, rfl, hK⟩
  · rename_i j want hg
    split at h
    · rename_i t ht
      split at h
      · rename_i b hb
        have hgd : gdE ops (lk l.env) o = some (b == want) := by simp [gdE, hg, ht, hb, isB]
        by_cases hbw : b = want
        · subst hbw
          rw [if_pos rfl] at h
          obtain ⟨f, hD, hK⟩ := vexec_step hH h
          have e1 := put_same (l := l) (e := sc (.bool b)) hb
          rw [e1] at hD
          exact ⟨f, _, .run (by rw [hgd]; simp) hD, e1, rfl, rfl, hK⟩
        · rw [if_neg hbw] at h
          have hb' : b = !want := by cases b <;> cases want <;> simp_all
          subst hb'
          exact ⟨skipEff, _, .skip (by rw [hgd]; cases want <;> rfl), put_same (l := l) hb, rfl, rfl, h⟩
      · rename_i hU
        exact ⟨skipEff, l, .skip (by simp [gdE, hg, ht, hU, isB, isU]), rfl, rfl, rfl, h⟩
      · exact h.elim
    · exact h.elim

theorem app_congr {l1 l : LS} (h1 : lk l1.env = lk l.env) (h2 : l1.rt = l.rt) (h3 : l1.ep = l.ep) (used : Nat → Bool) : l1.den used = l.den used := by
  simp only [LS.den, h1, h2, h3]

/-- The operations in the order of the text. -/
theorem vops_sound (hH : H.ok P) {x : Ctx} {Q : Exit → Act → World → Prop} {K : LS → Prop} (hQ : ∀ l used a w, K l → Rel x (l.den used) a w → Q .normal a w) : ∀ (rest : List Oper) (seen : List Nat) (l : LS) (used : Nat → Bool) (a : Act) (w : World),
    wfDst x.n seen rest = true → (∀ d, used d = true → d ∈ seen) → Rel x (l.den used) a w → vops P H ops rest l K → wpList P ops Q rest a w
  | [], seen, l, used, a, w, _, _, hR, h => hQ l used a w h hR
  | o :: rest, seen, l, used, a, w, hwf, hus, ⟨μ, I, hR⟩, h => by
    obtain ⟨f, l1, hS, e1, e2, e3, hK⟩ := vop_step hH h
    have hden := app_congr e1 e2 e3 used
    have hd : ∀ d, o.dst = some d → d < x.n ∧ d ∉ seen ∧ wfDst x.n (d :: seen) rest = true := fun d hd => by
      simp only [wfDst, hd, Bool.and_eq_true, decide_eq_true_eq, Bool.not_eq_true'] at hwf
      exact ⟨hwf.1.1, by simpa using hwf.1.2, hwf.2⟩
    refine Step.sound hR (s := l.den used) hS (fun d h => (hd d h).1) (fun _ d h => ?_) (fun a' w' hR' => ?_)
    · cases hu : used d with
      | false => exact hu
      | true => exact absurd (hus d hu) (hd d h).2.1
    · rw [← hden, ← den_app] at hR'
      cases hdst : o.dst with
      | none =>
        rw [hdst] at hR' hK
        refine vops_sound hH hQ rest seen _ _ a' w' (by simpa [wfDst, hdst] using hwf) (fun d hd' => ?_) hR' hK
        exact hus d (by cases hn : f.new <;> simpa [hn] using hd')
      | some d =>
        rw [hdst] at hR' hK
        refine vops_sound hH hQ rest (d :: seen) _ _ a' w' (hd d hdst).2.2 (fun q hq => ?_) hR' hK
        cases hn : f.new with
        | false => rw [hn] at hq; exact List.mem_cons_of_mem _ (hus q hq)
        | true =>
          rw [hn] at hq
          simp only [upd] at hq
          split at hq
          · rename_i e; rw [e]; exact List.mem_cons_self
          · exact List.mem_cons_of_mem _ (hus q hq)

theorem callK_mono {F : FM} {l : LS} {dst : Option Nat} {ps : List Nm} {lend : Bool} {rin : List Root} {args : List E} {K K' : LS → List (Nm × Option Root) → Prop} (hK : ∀ l r, K l r → K' l r) (h : callK F l dst ps lend rin args K) : callK F l dst ps lend rin args K' := by
  unfold callK at h ⊢
  split
  · rename_i hm
    rw [hm] at h
    exact ⟨h.1, h.2.1, hK _ _ h.2.2⟩
  · rename_i hm; rw [hm] at h; exact h
theorem vexec_mono {o : Oper} {rd : Nm → Option Root} {l : LS} {K K' : LS → List (Nm × Option Root) → Prop} (hK : ∀ l r, K l r → K' l r) (h : vexec P H o rd l K) : vexec P H o rd l K' := by
  unfold vexec at h ⊢
  split at h
  · unfold vcall at h ⊢
    split at h
    · split at h
      · simp only at h ⊢
        split at h
        · exact callK_mono hK h
        · split at h
          · exact callK_mono hK h
          · exact h
      · exact h
    · exact h
  · split at h
    · exact ⟨h.1, hK _ _ h.2⟩
    · exact h
theorem vop_mono {o : Oper} {l : LS} {K K' : LS → Prop} (hK : ∀ l, K l → K' l) (h : vop P H ops o l K) : vop P H ops o l K' := by
  unfold vop at h ⊢
  split at h
  · exact vexec_mono (fun l _ => hK l) h
  · split at h
    · split at h
      · split at h
        · rename_i e; rw [if_pos e]; exact vexec_mono (fun l _ => hK l) h
        · rename_i e; rw [if_neg e]; exact hK _ h
      · exact hK _ h
      · exact h
    · exact h
theorem vops_mono {K K' : LS → Prop} (hK : ∀ l, K l → K' l) : ∀ (rest : List Oper) (l : LS), vops P H ops rest l K → vops P H ops rest l K'
  | [], l, h => hK l h
  | _ :: rest, _, h => vop_mono (fun _ h => vops_mono hK rest _ h) h
end

end Go.Proofs.YtpdcdajccfccbaaW.V

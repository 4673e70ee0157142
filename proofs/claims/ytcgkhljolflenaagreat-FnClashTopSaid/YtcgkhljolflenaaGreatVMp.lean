/- Iterators over strings, and maps of plain values. No condition but each theorem's own. -/
import Derived.Test.YtcgkhljolflenaaGreatVR
namespace Go.Proofs.YtcgkhljolflenaaGreatW.V
open Go

def putO (w : World) (r : Nat) (o : Obj) : World := { w with heap := w.heap.setIfInBounds r o }
theorem putO_same {w : World} {r : Nat} {o o' : Obj} (h : w.heap[r]? = some o') : (putO w r o).heap[r]? = some o := by
  have hlt : r < w.heap.size := (Array.getElem?_eq_some_iff.1 h).1
  simp [putO, hlt]
theorem putO_other {w : World} {r k : Nat} {o : Obj} (h : k ≠ r) : (putO w r o).heap[k]? = w.heap[k]? := by
  simp [putO, Array.getElem?_setIfInBounds_ne (Ne.symm h)]
theorem putO_gr {w : World} {r : Nat} {o : Obj} : Gr w (putO w r o) (· = r) :=
  ⟨rfl, rfl, rfl, by simp [putO], fun _ _ hk => putO_other hk⟩

/-- The next letter of a text. -/
def nextV (s : ByteArray) (p : Nat) : Option (Nat × Nat) := if p < s.size then some (Utf8.decode s p) else none

/-- A key's cells. -/
def kc : Bool → Value → Option (List Value)
  | true, .agg cs => some cs.toList
  | true, _ => none
  | false, .int k n => some [.int k n]
  | false, .bool b => some [.bool b]
  | false, _ => none
theorem kc_spec {g : Bool} {v : Value} {xs : List Value} (h : kc g v = some xs) : v = asV g xs := by
  unfold kc at h
  split at h <;> first | (cases h; simp [asV]) | cases h

/-- Where a key stands in a map, and what it has. -/
def mfind (P : Program) (kt : TypeId) (g : Bool) (ks : List Value) : List (Value × Value) → Option (Option (Nat × Value))
  | [] => some none
  | e :: es => match kc g e.1 with
    | some ys => match eqT P 8 kt ks ys with
      | some true => some (some (0, e.2))
      | some false => (match mfind P kt g ks es with
        | some (some (i, v)) => some (some (i + 1, v))
        | some none => some none
        | none => none)
      | none => none
    | none => none

/-- A type's zero, as a value. -/
def zvE (P : Program) (t : TypeId) : Option E := match P.info? t with
  | some i => match i.zero with
    | some z => ofV z
    | none => none
  | none => none

/-- What a map answers, with or without whether it has it. -/
def lkE (b : Bool) (y : A) : Bool → E
  | true => .t [y, .o (.c (.v (.bool b)))]
  | false => .x y

section
variable {P : Program} {x : Ctx} {μ : Mu} {I : Imm} {s : St} {a : Act} {w : World}

theorem run_getI {r : Nat} {b : ByteArray} {p : Nat} (h : w.heap[r]? = some (.stringIter b p)) : (getObj r).run P w = .ok (.stringIter b p) w := by
  simp [getObj, Sem.run, h]
theorem run_setI {r : Nat} {o : Obj} {b : ByteArray} {p : Nat} (h : w.heap[r]? = some (.stringIter b p)) : (setObj r o).run P w = .ok () (putO w r o) := by
  simp [setObj, Sem.run, h, putO]
theorem run_getM {r : Nat} {as : Array MapEntry} {c : Nat} (h : w.heap[r]? = some (.map as c)) : (getObj r).run P w = .ok (.map as c) w := by
  simp [getObj, Sem.run, h]
theorem run_setM {r : Nat} {o : Obj} {as : Array MapEntry} {c : Nat} (h : w.heap[r]? = some (.map as c)) : (setObj r o).run P w = .ok () (putO w r o) := by
  simp [setObj, Sem.run, h, putO]

theorem goes_newO (h : RelX x μ I s a w) {o : Oper} {d : Nat} (hdst : o.dst = some d) (hd : d < x.n) (hu : s.used d = false) {obj : Obj} {e k cap : Nat} {r : Root} {e0 : E} {u : Value}
    (hrun : (execOp a.eval o).run P w = .ok (.value u) (w.alloc obj))
    (hr : ∀ w' μ' L', Stays w I w' I → Kept μ s.L μ' L' → w'.heap[w.heap.size]? = some obj → RR w' I μ' L' r ⟨some w.heap.size, e, k, cap⟩)
    (he : ∀ w' μ' L', Stays w I w' I → Kept μ s.L μ' L' → μ' (s.ep, 100 * d) = some ⟨some w.heap.size, e, k, cap⟩ → L' (s.ep, 100 * d) = some r.len → ER w' I μ' L' e0 u) {ob : Prop} :
    Goes P x o a w (s.app o.dst ⟨some e0, [((s.ep, 100 * d), some r)], true, ob⟩) := by
  have hn := h.new (j := 0) hd (by omega) hu (Alk.refl w) hr he
  exact ⟨u, _, .inl hrun, _, I, by simpa [St.app, hdst] using hn⟩

theorem go_range (h : RelX x μ I s a w) {o : Oper} {t : TypeId} {y : Operand} (ho : o.op = .range t y) {q : Nat} (hdst : o.dst = some q) (hd : q < x.n) (hu : s.used q = false) {d : TD} (ht : td P t = some d) (hk : d.k = .str) {b : ByteArray} (he : evE s.env y = some (sc (.string b))) {ob : Prop} :
    Goes P x o a w (s.app o.dst ⟨some (.x (.o (.p (s.ep, 100 * q) 0 0 1))), [((s.ep, 100 * q), some (.it b 0))], true, ob⟩) := by
  have e1 : a.eval y = .string b := sc_er (evE_spec h he)
  refine goes_newO h hdst hd hu (r := .it b 0) (obj := .stringIter b 0) (e := 0) (k := 0) (cap := 0) (u := .pointer (some ⟨w.heap.size, 0, none⟩))
    (by simp [execOp, ho, Instr.range, run_underlying (td_str ht hk), e1]) (fun w' μ' L' hs hk hh => ⟨rfl, _, rfl, hh⟩) (fun w' μ' L' hs hk hμ hL => ?_)
  simpa using ptr_er (I := I) (w' := w') (m := 1) hμ hL 0 0 (by decide)

theorem go_next (h : RelX x μ I s a w) {o : Oper} {y : Operand} (ho : o.op = .next y true) (hd : ∀ d, o.dst = some d → d < x.n) {ρ : Nm} (he : evE s.env y = some (.x (.o (.p ρ 0 0 1)))) {b : ByteArray} {p : Nat} (hr : s.rt ρ = some (.it b p)) {ob : Prop} {f : Eff}
    (hf : f = match nextV b p with
      | some (c, n) => ⟨some (.t [.o (.c (.v (.bool true))), .o (.c (.v (.int .i64 p))), .o (.c (.v (.int .i32 c)))]), [(ρ, some (.it b (p + n)))], false, ob⟩
      | none => ⟨some (.t [.o (.c (.v (.bool false)))]), [], false, ob⟩) :
    Goes P x o a w (s.app o.dst f) := by
  obtain ⟨g, hg, ⟨hc, k, hk, hh⟩, hB⟩ := h.root ρ _ hr
  have hy := evE_spec h he
  obtain ⟨_, g', hg', hp⟩ := hy
  rw [hg] at hg'; cases hg'
  obtain ⟨k', hk', e1⟩ := (hp 1 (by simp [St.L, hr, Root.len])).2 rfl
  rw [hk] at hk'; cases hk'
  rw [ptV_le (by rw [hc]; exact Nat.zero_le _), Nat.zero_mul] at e1
  unfold nextV at hf
  by_cases hlt : p < b.size
  · rw [if_pos hlt] at hf
    cases hdec : Utf8.decode b p with
    | mk c n =>
    rw [hdec] at hf
    subst hf
    have hrun : (execOp a.eval o).run P w = .ok (.value (.tuple #[.bool true, goInt p, .int .i32 c])) (putO w k (.stringIter b (p + n))) := by
      simp [execOp, ho, Instr.next, e1, run_getI hh, hlt, hdec, run_setI hh]
    have hmod := h.mod hr (r' := .it b (p + n)) rfl hg hk (w' := putO w k (.stringIter b (p + n))) putO_gr (fun _ => ⟨hc, k, hk, putO_same hh⟩)
    refine ⟨_, _, .inl hrun, μ, I, ?_⟩
    cases hdst : o.dst with
    | none => simpa [St.app, hdst, Act.put] using hmod
    | some d => simpa [St.app] using hmod.put (e := .t [.o (.c (.v (.bool true))), .o (.c (.v (.int .i64 p))), .o (.c (.v (.int .i32 c)))]) (u := .tuple #[.bool true, goInt p, .int .i32 c]) (hd d hdst) ⟨[.bool true, goInt p, .int .i32 c], rfl, .cons (.v _ rfl) (.cons (.v _ rfl) (.cons (.v _ rfl) .nil))⟩
  · rw [if_neg hlt] at hf
    subst hf
    have hrun : (execOp a.eval o).run P w = .ok (.value (.tuple #[.bool false])) w := by
      simp [execOp, ho, Instr.next, e1, run_getI hh, hlt]
    exact goes_val h hd (e := .t [.o (.c (.v (.bool false)))]) hrun ⟨[.bool false], rfl, .cons (.v _ rfl) .nil⟩

theorem go_makeMap (h : RelX x μ I s a w) {o : Oper} {t : TypeId} (ho : o.op = .makeMap t none) {q : Nat} (hdst : o.dst = some q) (hd : q < x.n) (hu : s.used q = false) {ob : Prop} :
    Goes P x o a w (s.app o.dst ⟨some (.x (.o (.p (s.ep, 100 * q) 0 0 0))), [((s.ep, 100 * q), some (.mp []))], true, ob⟩) := by
  refine goes_newO h hdst hd hu (r := .mp []) (obj := .map #[] 0) (e := 0) (k := 0) (cap := mapCap) (u := .map (some w.heap.size))
    (by simp [execOp, ho, Instr.makeMap]) (fun w' μ' L' hs hk hh => ⟨rfl, _, _, _, rfl, hh, rfl⟩) (fun w' μ' L' hs hk hμ hL => ?_)
  exact ⟨rfl, _, hμ, fun l hl => by rw [hL] at hl; cases hl; exact ⟨Nat.le_refl _, fun _ => ⟨_, rfl, (ptV_map rfl).symm⟩⟩⟩

/-- The name of a map, and what it is. -/
theorem map_at (h : RelX x μ I s a w) {y : Operand} {ρ : Nm} (he : evE s.env y = some (.x (.o (.p ρ 0 0 0)))) {es : List (Value × Value)} (hr : s.rt ρ = some (.mp es)) :
    ∃ g b as c, μ ρ = some g ∧ g.b = some b ∧ g.cap = mapCap ∧ w.heap[b]? = some (.map as c) ∧ as.toList.map (fun e => (e.key, e.val)) = es ∧ a.eval y = .map (some b) := by
  obtain ⟨g, hg, ⟨hc, b, as, c, hb, hh, hes⟩, _⟩ := h.root ρ _ hr
  obtain ⟨_, g', hg', hp⟩ := evE_spec h he
  rw [hg] at hg'; cases hg'
  obtain ⟨b', hb', e1⟩ := (hp 0 (by simp [St.L, hr, Root.len])).2 rfl
  rw [hb] at hb'; cases hb'
  rw [ptV_map hc] at e1
  exact ⟨g, b, as, c, hg, hb, hc, hh, hes, e1⟩

theorem eqT_check : ∀ (n : Nat) {t : TypeId} {xs ys : List Value} {r : Bool} {d : TD}, eqT P n t xs ys = some r → td P t = some d → ∀ (em : Bool) (N : Nat), n ≤ N →
    (Instr.checkKey em N t (asV d.agg xs)).run P w = .ok () w
  | 0, _, _, _, _, _, h, _, _, _, _ => by simp [eqT] at h
  | n + 1, t, xs, ys, r, d, h, ht, em, N, hN => by
    obtain ⟨M, rfl⟩ : ∃ M, N = M + 1 := ⟨N - 1, by omega⟩
    have h' := h
    simp only [eqT, ht] at h
    cases hk : d.k with
    | int k0 =>
      rw [hk] at h
      have hu := td_int ht hk
      have ha : d.agg = false := by simp [TD.agg, hk]
      simp only at h
      split at h
      · simp [Instr.checkKey, run_underlying hu, asV, ha]
      · cases h
    | bool =>
      rw [hk] at h
      have hu := td_bool ht hk
      have ha : d.agg = false := by simp [TD.agg, hk]
      simp only at h
      split at h
      · simp [Instr.checkKey, run_underlying hu, asV, ha]
      · cases h
    | str =>
      rw [hk] at h
      have hu := td_str ht hk
      have ha : d.agg = false := by simp [TD.agg, hk]
      simp only at h
      split at h
      · simp [Instr.checkKey, run_underlying hu, asV, ha]
      · cases h
    | st fs =>
      rw [hk] at h
      have ha : d.agg = true := by simp [TD.agg, hk]
      simp only at h
      split at h
      · rename_i hok
        obtain ⟨gs, hgs, hfs⟩ := td_st ht hk
        have hnm : ∀ f ∈ gs.toList, f.name ≠ "_" := by
          obtain ⟨D, i, z, hD, hi, hz, hkk, _⟩ := td_spec ht
          unfold td at ht
          rw [hi, hgs] at ht
          simp only [hz, Option.some.injEq] at ht
          rw [← ht] at hok
          simp only [Bool.and_eq_true, List.all_eq_true, bne_iff_ne, Bool.not_eq_true'] at hok
          exact fun f hf => hok.2 f hf
        rw [Instr.checkKey]
        simp only [Sem.run_bind, run_underlying hgs, Result.andThen_ok, asV, ha, if_true]
        rw [← Array.forIn_toList]
        clear hgs hok ht hk h'
        subst hfs
        revert r
        generalize gs.toList = fl at hnm
        induction fl with
        | nil => intro r h; simp
        | cons f fl ih =>
          intro r h
          simp only [List.map_cons, eqFs] at h
          split at h
          · rename_i n1 hn1
            split at hn1
            · rename_i df hdf
              cases hn1
              split at h
              · rename_i hle
                split at h
                · rename_i r1 q1 hr1 hq1
                  cases h
                  have e1 := eqT_check n hr1 hdf em M (by omega)
                  obtain ⟨_, e2⟩ := eqT_spec (w := w) n hr1 hdf M (by omega)
                  have hone : df.agg = false → df.size = 1 := fun h0 => by
                    have := (e2 h0).1
                    simp at this; omega
                  have ih' := ih (fun g hg => hnm g (by simp [hg])) _ hq1
                  have hn' := hnm f (by simp)
                  simp only [List.forIn_cons, ne_eq, hn', not_false_eq_true, if_true, Sem.run_bind, run_partV hdf hle.1 hone, Result.andThen_ok, e1, Sem.run_pure]
                  exact ih'
                · cases h
              · cases h
            · cases hn1
          · cases h
      · cases h
    | _ => rw [hk] at h; simp at h

def shiftM (i : Nat) : Option (Nat × Value) → Option (Nat × Value)
  | some (j, v) => some (j + i, v)
  | none => none

theorem mfind_ask {kt : TypeId} {dk : TD} (hk : td P kt = some dk) {ks : List Value} : ∀ {l : List MapEntry} {r : Option (Nat × Value)} (i : Nat), mfind P kt dk.agg ks (l.map fun e => (e.key, e.val)) = some r →
    (Instr.findAsking kt (asV dk.agg ks) l i).run P w = .ok (shiftM i r) w
  | [], r, i, h => by simp only [List.map_nil, mfind, Option.some.injEq] at h; subst h; simp [Instr.findAsking, shiftM]
  | e :: l, r, i, h => by
    simp only [List.map_cons, mfind] at h
    split at h
    · rename_i ys hys
      have hkey := kc_spec hys
      split at h
      · rename_i he
        cases h
        have h1 := (eqT_spec (w := w) 8 he hk 10000 (by omega)).1
        rw [← hkey] at h1
        have h2 : (Op.equal kt (asV dk.agg ks) e.key).run P w = .ok true w := h1
        simp [Instr.findAsking, h2, shiftM]
      · rename_i he
        have h1 := (eqT_spec (w := w) 8 he hk 10000 (by omega)).1
        rw [← hkey] at h1
        have h2 : (Op.equal kt (asV dk.agg ks) e.key).run P w = .ok false w := h1
        rw [Instr.findAsking]
        simp only [Sem.run_bind, h2, Result.andThen_ok, Bool.false_eq_true, if_false]
        split at h
        · rename_i j v hm
          cases h
          rw [mfind_ask hk (i + 1) hm]
          simp [shiftM]; omega
        · rename_i hm
          cases h
          rw [mfind_ask hk (i + 1) hm]
          rfl
        · cases h
      · cases h
    · cases h

theorem mfind_now {kt : TypeId} {dk : TD} (hk : td P kt = some dk) {ks : List Value} {D : TypeDesc} (hD : toTy D = dk.k) (ha : dk.agg = false) : ∀ {l : List MapEntry} {r : Option (Nat × Value)} (i : Nat), mfind P kt dk.agg ks (l.map fun e => (e.key, e.val)) = some r →
    Instr.findNow D (asV dk.agg ks) l i = some (shiftM i r)
  | [], r, i, h => by simp only [List.map_nil, mfind, Option.some.injEq] at h; subst h; simp [Instr.findNow, shiftM]
  | e :: l, r, i, h => by
    have key : ∀ {ys : List Value} {b : Bool}, kc dk.agg e.key = some ys → eqT P 8 kt ks ys = some b → Instr.sameNow D (asV dk.agg ks) e.key = some b := by
      intro ys b hys he
      rw [kc_spec hys]
      simp only [eqT, hk] at he
      cases hkk : dk.k with
      | int k0 =>
        rw [hkk] at he hD
        cases D <;> simp only [toTy, Ty.int.injEq, reduceCtorEq] at hD
        subst hD
        simp only at he
        split at he
        · split at he
          · rename_i hkl
            subst hkl
            cases he
            simp [asV, ha, Instr.sameNow, beq_int]
          · cases he
        · cases he
      | bool =>
        rw [hkk] at he hD
        cases D <;> simp only [toTy, reduceCtorEq] at hD
        simp only at he
        split at he
        · cases he
          simp [asV, ha, Instr.sameNow]
        · cases he
      | str =>
        rw [hkk] at he hD
        cases D <;> simp only [toTy, reduceCtorEq] at hD
        simp only at he
        split at he
        · exfalso
          have h2 := kc_spec hys
          rw [ha] at hys h2
          rw [h2] at hys
          simp [asV, kc] at hys
        · cases he
      | st fs => simp [TD.agg, hkk] at ha
      | _ => rw [hkk] at he; simp at he
    simp only [List.map_cons, mfind] at h
    split at h
    · rename_i ys hys
      split at h
      · rename_i he
        cases h
        simp [Instr.findNow, key hys he, shiftM]
      · rename_i he
        rw [Instr.findNow, key hys he]
        split at h
        · rename_i j v hm
          cases h
          simp only
          rw [mfind_now hk hD ha (i + 1) hm]
          simp [shiftM]; omega
        · rename_i hm
          cases h
          simp only
          rw [mfind_now hk hD ha (i + 1) hm]
          rfl
        · cases h
      · cases h
    · cases h

theorem run_find {kt : TypeId} {dk : TD} (hk : td P kt = some dk) {ks : List Value} {l : List MapEntry} {r : Option (Nat × Value)} (h : mfind P kt dk.agg ks (l.map fun e => (e.key, e.val)) = some r) :
    (Instr.findKey kt (asV dk.agg ks) l).run P w = .ok r w := by
  have hr : shiftM 0 r = r := by rcases r with _ | ⟨j, v⟩ <;> rfl
  obtain ⟨D, i, z, hD, _, _, hkk, _⟩ := td_spec hk
  simp only [Instr.findKey, Sem.run_bind, run_underlying hD, Result.andThen_ok]
  cases ha : dk.agg with
  | false =>
    have h1 := mfind_now hk hkk.symm ha 0 h
    rw [ha, hr] at h1
    rw [h1]; simp
  | true =>
    have h1 := mfind_ask (w := w) hk 0 h
    rw [ha, hr] at h1
    cases l with
    | nil => simp only [List.map_nil, mfind, Option.some.injEq] at h; subst h; simp [Instr.findNow]
    | cons e l =>
      have hn : Instr.findNow D (asV true ks) (e :: l) 0 = none := by
        simp only [TD.agg, hkk] at ha
        cases D <;> simp [toTy] at ha <;> simp [Instr.findNow, Instr.sameNow]
      rw [hn]
      exact h1

theorem go_lookup (h : RelX x μ I s a w) {o : Oper} {t kt et : TypeId} {y z : Operand} {cm : Bool} (ho : o.op = .lookup t y z cm) (hd : ∀ d, o.dst = some d → d < x.n) {d dk : TD} (ht : td P t = some d) (hk : d.k = .map kt et) (hkt : td P kt = some dk)
    {ρ : Nm} (he : evE s.env y = some (.x (.o (.p ρ 0 0 0)))) {es : List (Value × Value)} (hr : s.rt ρ = some (.mp es)) {ez : E} (hz : evE s.env z = some ez) {kv : Value} (hkv : toV ez = some kv) {ks : List Value} (hks : kc dk.agg kv = some ks) {b : Bool} (hv : eqT P 8 kt ks ks = some b)
    {r : Option (Nat × Value)} (hm : mfind P kt dk.agg ks es = some r) {y' : A} (hy : (match r with | some (_, v) => ofV v | none => zvE P et) = some (.x y')) {ob : Prop} :
    Goes P x o a w (s.app o.dst ⟨some (lkE r.isSome y' cm), [], false, ob⟩) := by
  obtain ⟨g, bb, as, c, hg, hb, hcap, hh, hes, e1⟩ := map_at h he hr
  have e2 : a.eval z = asV dk.agg ks := by rw [toV_spec (evE_spec h hz) hkv]; exact kc_spec hks
  have hc := eqT_check (w := w) 8 hv hkt as.isEmpty 10000 (by omega)
  rw [← hes] at hm
  have hf := run_find (w := w) hkt hm
  have hzero : r = none → ∃ v, (zeroValue et).run P w = .ok v w ∧ AR w I μ s.L y' v := fun hn => by
    subst hn
    simp only [zvE] at hy
    split at hy
    · rename_i i hi
      split at hy
      · rename_i zv hzv
        exact ⟨zv, by simp [zeroValue, typeInfo, hi, hzv], ofV_spec hy⟩
      · cases hy
    · cases hy
  have hlk : ∃ v, (Instr.lookup t (a.eval y) (a.eval z) cm).run P w = .ok (if cm then .tuple #[v, .bool r.isSome] else v) w ∧ AR w I μ s.L y' v := by
    simp only [Instr.lookup, Sem.run_bind, run_underlying (td_map ht hk), Result.andThen_ok, e1, run_getM hh, Sem.run_pure, e2, hc, hf]
    cases r with
    | none =>
      obtain ⟨v, h1, h2⟩ := hzero rfl
      refine ⟨v, ?_, h2⟩
      simp [h1]
    | some p =>
      obtain ⟨j, v⟩ := p
      exact ⟨v, by simp, ofV_spec hy⟩
  obtain ⟨v, h1, h2⟩ := hlk
  cases cm with
  | true => exact goes_val h hd (e := .t [y', .o (.c (.v (.bool r.isSome)))]) (v := .tuple #[v, .bool r.isSome]) (by simp only [execOp, ho, Sem.run_bind, h1]; rfl) ⟨[v, .bool r.isSome], rfl, .cons h2 (.cons (.v _ rfl) .nil)⟩
  | false => exact goes_val h hd (e := .x y') (v := v) (by simp only [execOp, ho, Sem.run_bind, h1]; rfl) h2

theorem go_mapUpdate (h : RelX x μ I s a w) {o : Oper} {t kt et : TypeId} {y z u : Operand} (ho : o.op = .mapUpdate t y z u) (hdst : o.dst = none) {d dk : TD} (ht : td P t = some d) (hk : d.k = .map kt et) (hkt : td P kt = some dk)
    {ρ : Nm} (he : evE s.env y = some (.x (.o (.p ρ 0 0 0)))) {es : List (Value × Value)} (hr : s.rt ρ = some (.mp es)) {ez : E} (hz : evE s.env z = some ez) {kv : Value} (hkv : toV ez = some kv) {ks : List Value} (hks : kc dk.agg kv = some ks) {b : Bool} (hv : eqT P 8 kt ks ks = some b)
    (hm : mfind P kt dk.agg ks es = some none) {eu : E} (hu : evE s.env u = some eu) {uv : Value} (huv : toV eu = some uv) {ob : Prop} :
    Goes P x o a w (s.app o.dst ⟨none, [(ρ, some (.mp (es ++ [(kv, uv)])))], false, ob⟩) := by
  obtain ⟨g, bb, as, c, hg, hb, hcap, hh, hes, e1⟩ := map_at h he hr
  have e2 : a.eval z = kv := toV_spec (evE_spec h hz) hkv
  have e3 : a.eval u = uv := toV_spec (evE_spec h hu) huv
  have e4 := kc_spec hks
  have hc := eqT_check (w := w) 8 hv hkt false 10000 (by omega)
  rw [← hes] at hm
  have hf := run_find (w := w) hkt hm
  rw [← e4] at hc hf
  have hrun : (Instr.mapUpdate t (a.eval y) (a.eval z) (a.eval u)).run P w = .ok () (putO w bb (.map (as.push { key := kv, val := uv, born := c }) (c + 1))) := by
    simp only [Instr.mapUpdate, Sem.run_bind, run_underlying (td_map ht hk), Result.andThen_ok, e1, run_getM hh, e2, hc, hf, run_setM hh, e3]
  have hmod := h.mod hr (r' := .mp (es ++ [(kv, uv)])) rfl hg hb (w' := putO w bb (.map (as.push { key := kv, val := uv, born := c }) (c + 1))) putO_gr (fun _ => ⟨hcap, bb, _, _, hb, putO_same hh, by simp [hes]⟩)
  refine ⟨undef, _, .inr ⟨by simp only [execOp, ho, Sem.run_bind, hrun]; rfl, rfl⟩, μ, I, ?_⟩
  rw [hdst]
  simpa [St.app, Act.put] using hmod
end

end Go.Proofs.YtcgkhljolflenaaGreatW.V

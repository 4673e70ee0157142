/- Types, reading and writing of the plain memory, borne out by the world's. No condition but each theorem's own. -/
import Derived.Test.YtcgkhljolflenaaGreatVA
namespace Go.Proofs.YtcgkhljolflenaaGreatW.V
open Go

inductive Ty where
  | int (k : IntKind) | bool | str | slice (e : TypeId) | arr (n : Nat) (e : TypeId) | st (fs : List (Nat × TypeId)) | map (k e : TypeId) | ptr (e : TypeId) | other

structure TD where
  k : Ty
  size : Nat
  bytes : Nat
  zero : List Value
  eqok : Bool

def toTy : TypeDesc → Ty
  | .int k => .int k
  | .bool => .bool
  | .string => .str
  | .slice e => .slice e
  | .array n e => .arr n e
  | .struct fs => .st (fs.toList.map fun f => (f.offset, f.type))
  | .map k e => .map k e
  | .pointer e => .ptr e
  | _ => .other

def td (P : Program) (t : TypeId) : Option TD :=
  match P.underlying t, P.info? t with
  | some d, some i => match i.zero with
    | some z => some ⟨toTy d, i.size, i.bytes, z.cells.toList, match d with
      | .struct fs => !P.stoodInHeld t && !P.eqGuardType P.depth t && fs.toList.all fun f => f.name != "_"
      | _ => true⟩
    | none => none
  | _, _ => none

def TD.agg (d : TD) : Bool := match d.k with
  | .st _ | .arr _ _ => true
  | _ => false

def descAgg : TypeDesc → Bool
  | .struct _ | .array _ _ => true
  | _ => false

section
variable {P : Program} {t : TypeId} {d : TD} {w : World}

theorem td_spec (h : td P t = some d) : ∃ D i z, P.underlying t = some D ∧ P.info? t = some i ∧ i.zero = some z ∧ d.k = toTy D ∧ i.size = d.size ∧ i.bytes = d.bytes ∧ z.cells.toList = d.zero := by
  unfold td at h
  split at h
  · rename_i D i h1 h2
    split at h
    · rename_i z hz
      cases h
      exact ⟨D, i, z, h1, h2, hz, rfl, rfl, rfl, rfl⟩
    · cases h
  · cases h

theorem run_isAgg (h : td P t = some d) : (isAgg t).run P w = .ok d.agg w := by
  obtain ⟨D, i, z, h1, _, _, hk, _⟩ := td_spec h
  have : d.agg = descAgg D := by
    simp only [TD.agg, hk]; cases D <;> rfl
  rw [this]
  simp only [isAgg, Sem.run_bind, run_underlying h1, Result.andThen_ok]
  cases D <;> rfl

theorem run_sizeOf (h : td P t = some d) : (sizeOf t).run P w = .ok d.size w := by
  obtain ⟨D, i, z, _, h2, _, _, h3, _⟩ := td_spec h
  simp [sizeOf, typeInfo, h2, h3]

theorem run_zeroValue (h : td P t = some d) : ∃ z : Value, z.cells.toList = d.zero ∧ (zeroValue t).run P w = .ok z w := by
  obtain ⟨D, i, z, _, h2, hz, _, _, _, h3⟩ := td_spec h
  exact ⟨z, h3, by simp [zeroValue, typeInfo, h2, hz]⟩

theorem td_int {k : IntKind} (h : td P t = some d) (hk : d.k = .int k) : P.underlying t = some (.int k) := by
  obtain ⟨D, i, z, h1, _, _, h2, _⟩ := td_spec h
  rw [hk] at h2
  cases D <;> simp [toTy] at h2
  rw [h1, h2]
theorem td_bool (h : td P t = some d) (hk : d.k = .bool) : P.underlying t = some .bool := by
  obtain ⟨D, i, z, h1, _, _, h2, _⟩ := td_spec h
  rw [hk] at h2
  cases D <;> simp [toTy] at h2
  rw [h1]
theorem td_str (h : td P t = some d) (hk : d.k = .str) : P.underlying t = some .string := by
  obtain ⟨D, i, z, h1, _, _, h2, _⟩ := td_spec h
  rw [hk] at h2
  cases D <;> simp [toTy] at h2
  rw [h1]
theorem td_slice {e : TypeId} (h : td P t = some d) (hk : d.k = .slice e) : P.underlying t = some (.slice e) := by
  obtain ⟨D, i, z, h1, _, _, h2, _⟩ := td_spec h
  rw [hk] at h2
  cases D <;> simp [toTy] at h2
  rw [h1, h2]
theorem td_arr {n : Nat} {e : TypeId} (h : td P t = some d) (hk : d.k = .arr n e) : P.underlying t = some (.array n e) := by
  obtain ⟨D, i, z, h1, _, _, h2, _⟩ := td_spec h
  rw [hk] at h2
  cases D <;> simp [toTy] at h2
  rw [h1, h2.1, h2.2]
theorem td_map {k e : TypeId} (h : td P t = some d) (hk : d.k = .map k e) : P.underlying t = some (.map k e) := by
  obtain ⟨D, i, z, h1, _, _, h2, _⟩ := td_spec h
  rw [hk] at h2
  cases D <;> simp [toTy] at h2
  rw [h1, h2.1, h2.2]
theorem td_st {fs : List (Nat × TypeId)} (h : td P t = some d) (hk : d.k = .st fs) : ∃ gs : Array Field, P.underlying t = some (.struct gs) ∧ fs = gs.toList.map fun f => (f.offset, f.type) := by
  obtain ⟨D, i, z, h1, _, _, h2, _⟩ := td_spec h
  rw [hk] at h2
  cases D <;> simp [toTy] at h2
  exact ⟨_, h1, by rw [h2]⟩

/-- Cells loaded as a value of a type. -/
def asV (agg : Bool) (cs : List Value) : Value := if agg then .agg cs.toArray else cs.headD undef

theorem run_loadV (h : td P t = some d) {b o : Nat} {cs : List Value} (hl : cs.length = d.size) (hc : ∀ (j : Nat) v, cs[j]? = some v → w.cell? ⟨b, o + j, none⟩ = some v)
    (ha : d.agg = false → ∃ v, cs = [v]) : (loadVar t ⟨b, o, none⟩).run P w = .ok (asV d.agg cs) w := by
  simp only [loadVar, Sem.run_bind, run_isAgg h, Result.andThen_ok, Sem.run_ite]
  cases hd : d.agg with
  | true =>
    simp only [if_true, run_sizeOf h, Result.andThen_ok]
    rw [← hl, run_loadCells_list (P := P) w ⟨b, o, none⟩ cs (fun j v hv => by rw [Addr.add_lit]; exact hc j v hv)]
    rfl
  | false =>
    obtain ⟨v, rfl⟩ := ha hd
    have := hc 0 v rfl
    simp only [Nat.add_zero] at this
    simp [asV, this]
end

/-! ### Flat lists of rows of one length -/
theorem flatten_get {α : Type} {k : Nat} : ∀ {xs : List (List α)}, (∀ x ∈ xs, x.length = k) → ∀ {i : Nat} {c : List α}, xs[i]? = some c → ∀ (j : Nat), j < k → xs.flatten[i * k + j]? = c[j]?
  | [], _, i, c, h, _, _ => by simp at h
  | x :: xs, hk, 0, c, h, j, hj => by
    simp at h; subst h
    simp only [List.flatten_cons, Nat.zero_mul, Nat.zero_add]
    rw [List.getElem?_append_left (by rw [hk x (by simp)]; exact hj)]
  | x :: xs, hk, i + 1, c, h, j, hj => by
    have ih := flatten_get (xs := xs) (fun y hy => hk y (by simp [hy])) (i := i) (c := c) (by simpa using h) j hj
    have hx := hk x (by simp)
    simp only [List.flatten_cons]
    rw [List.getElem?_append_right (by rw [hx, Nat.add_mul]; omega), hx, ← ih]
    congr 1
    rw [Nat.add_mul]; omega

theorem flatten_length {α : Type} {k : Nat} : ∀ {xs : List (List α)}, (∀ x ∈ xs, x.length = k) → xs.flatten.length = xs.length * k
  | [], _ => by simp
  | x :: xs, h => by
    simp only [List.flatten_cons, List.length_append, List.length_cons, flatten_length (xs := xs) fun y hy => h y (by simp [hy]), h x (by simp), Nat.add_mul]
    omega

theorem flatten_set {α : Type} {k : Nat} : ∀ {xs : List (List α)}, (∀ x ∈ xs, x.length = k) → ∀ {i : Nat} {c : List α}, i < xs.length → c.length = k →
    (xs.set i c).flatten = xs.flatten.take (i * k) ++ c ++ xs.flatten.drop (i * k + k)
  | [], _, i, c, h, _ => by simp at h
  | x :: xs, hk, 0, c, h, hc => by
    have hx := hk x (by simp)
    simp [← hx]
  | x :: xs, hk, i + 1, c, h, hc => by
    have ih := flatten_set (xs := xs) (fun y hy => hk y (by simp [hy])) (i := i) (c := c) (by simpa using h) hc
    have hx := hk x (by simp)
    simp only [List.set_cons_succ, List.flatten_cons, ih]
    have e1 : (i + 1) * k = x.length + i * k := by rw [hx, Nat.add_mul]; omega
    have e2 : (i + 1) * k + k = x.length + (i * k + k) := by rw [e1]; omega
    rw [e2, e1, List.take_length_add_append, List.drop_length_add_append]
    simp [List.append_assoc]

/-! ### Cells of a root -/
def Root.get (r : Root) (i o n : Nat) : Option (List D) := match r with
  | .row _ xs => match xs[i]? with
    | some c => if o + n ≤ c.length then some (((c.drop o).take n).map .c) else none
    | none => none
  | .bx xs => match xs[i]? with
    | some c => if o + n ≤ c.length then some ((c.drop o).take n) else none
    | none => none
  | .it _ _ => none
  | .mp _ => none
theorem Root.get_plen {r : Root} {i o n : Nat} {cs : List D} (h : r.get i o n = some cs) : r.plen = some r.len := by
  cases r with
  | mp es => cases h
  | _ => rfl

def unC : D → Option C
  | .c x => some x
  | _ => none
def unCs : List D → Option (List C)
  | [] => some []
  | .c x :: l => match unCs l with
    | some l => some (x :: l)
    | none => none
  | _ :: _ => none

theorem unCs_spec : ∀ {l : List D} {l' : List C}, unCs l = some l' → l = l'.map .c
  | [], l', h => by simp [unCs] at h; subst h; rfl
  | .c x :: l, l', h => by
    simp only [unCs] at h
    split at h
    · rename_i l1 h1
      cases h
      simp [unCs_spec h1]
    · cases h
  | .h .. :: _, _, h => by simp [unCs] at h
  | .p .. :: _, _, h => by simp [unCs] at h
  | .e .. :: _, _, h => by simp [unCs] at h

/-- Element i, cells o on, anew. -/
def Root.set (r : Root) (i o : Nat) (cs : List D) : Option Root := match r with
  | .row kk xs => match xs[i]?, unCs cs with
    | some c, some cs => if o + cs.length ≤ c.length then some (.row kk (xs.set i (c.take o ++ cs ++ c.drop (o + cs.length)))) else none
    | _, _ => none
  | .bx xs => match xs[i]? with
    | some c => if o + cs.length ≤ c.length then some (.bx (xs.set i (c.take o ++ cs ++ c.drop (o + cs.length)))) else none
    | none => none
  | .it _ _ => none
  | .mp _ => none

theorem Root.set_len {r r' : Root} {i o : Nat} {cs : List D} (h : r.set i o cs = some r') : r'.len = r.len := by
  unfold Root.set at h
  split at h
  · split at h
    · split at h
      · cases h; simp [Root.len]
      · cases h
    · cases h
  · split at h
    · split at h
      · cases h; simp [Root.len]
      · cases h
    · cases h
  · cases h
  · cases h
theorem Root.set_plen {r r' : Root} {i o : Nat} {cs : List D} (h : r.set i o cs = some r') : r.plen = some r.len := by
  cases r with
  | mp es => cases h
  | _ => rfl

theorem cell_of_row {w : World} {b : Nat} {cur : Array Value} {e : TypeId} {z : Nat × Nat} (h : w.heap[b]? = some (.cells cur e z)) (o : Nat) : w.cell? ⟨b, o, none⟩ = cur[o]? := by
  simp [World.cell?, h]

theorem take_get {cur : Array Value} {m : Nat} {us : List Value} (h : cur.toList.take m = us) {j : Nat} {u : Value} (hu : us[j]? = some u) : cur[j]? = some u := by
  subst h
  rw [List.getElem?_take] at hu
  split at hu
  · simpa using hu
  · cases hu

section
variable {w : World} {I : Imm} {μ : Mu} {L : Lens}

/-- What a reading gives is in the memory. -/
theorem RR.get {r : Root} {f : Info} {i o n : Nat} {cs : List D} (h : RR w I μ L r f) (hg : r.get i o n = some cs) (hi : i < r.len) :
    ∃ b us, f.b = some b ∧ F2 (DR w I μ L) cs us ∧ us.length = n ∧ ∀ (j : Nat) u, us[j]? = some u → w.cell? ⟨b, i * f.k + o + j, none⟩ = some u := by
  have key : ∀ {α : Type} {R : α → Value → Prop} {xs : List (List α)} {us : List Value} {c : List α}, (∀ x ∈ xs, x.length = f.k) → F2 R xs.flatten us → Own w f xs.length us → xs[i]? = some c → o + n ≤ c.length →
      ∃ b vs, f.b = some b ∧ F2 R ((c.drop o).take n) vs ∧ vs.length = n ∧ ∀ (j : Nat) u, vs[j]? = some u → w.cell? ⟨b, i * f.k + o + j, none⟩ = some u := by
    intro α R xs us c hk h2 h3 hc hon
    have hlt : i < xs.length := (List.getElem?_eq_some_iff.1 hc).1
    have hck : c.length = f.k := hk c (List.mem_of_getElem? hc)
    obtain ⟨h4, h5⟩ := h3
    cases hb : f.b with
    | none => rw [hb] at h5; omega
    | some b =>
      rw [hb] at h5
      obtain ⟨cur, hh, _, _, _, ht⟩ := h5
      refine ⟨b, (us.drop (i * f.k + o)).take n, rfl, ?_, ?_, ?_⟩
      · have e : (c.drop o).take n = (xs.flatten.drop (i * f.k + o)).take n := by
          apply List.ext_getElem?
          intro j
          by_cases hj : j < n
          · rw [List.getElem?_take_of_lt hj, List.getElem?_take_of_lt hj, List.getElem?_drop, List.getElem?_drop]
            rw [Nat.add_assoc, flatten_get hk hc (o + j) (by omega)]
          · rw [List.getElem?_take_eq_none (by omega), List.getElem?_take_eq_none (by omega)]
        rw [e]
        exact F2.take n (F2.drop _ h2)
      · have : (i + 1) * f.k ≤ xs.length * f.k := Nat.mul_le_mul_right _ hlt
        rw [Nat.add_mul] at this
        simp only [List.length_take, List.length_drop, h4]
        omega
      · intro j u hu
        rw [List.getElem?_take] at hu
        split at hu
        · rw [List.getElem?_drop] at hu
          rw [cell_of_row hh]
          exact take_get ht hu
        · cases hu
  cases r with
  | row kk xs =>
    obtain ⟨hk, ⟨us, h2, h3⟩, _⟩ := h
    simp only [Root.get] at hg
    split at hg
    · rename_i c hc
      split at hg
      · rename_i hon
        cases hg
        obtain ⟨b, vs, h4, h5, h6⟩ := key hk h2 h3 hc hon
        refine ⟨b, vs, h4, ?_, h6⟩
        have := F2.map (S := DR w I μ L) D.c id (fun _ _ h => h) h5
        simpa using this
      · cases hg
    · cases hg
  | bx xs =>
    obtain ⟨hk, us, h2, h3⟩ := h
    simp only [Root.get] at hg
    split at hg
    · rename_i c hc
      split at hg
      · rename_i hon
        cases hg
        exact key hk h2 h3 hc hon
      · cases hg
    · cases hg
  | it s p => cases hg
  | mp es => cases hg

/-- What a shared list's reading gives. -/
theorem SB.get {xs : List (List C)} {b oo k : Nat} {us : List Value} (h : SB w I xs b oo k us) {i o n : Nat} {c : List C} (hc : xs[i]? = some c) (hon : o + n ≤ c.length) :
    ∃ vs, F2 (CR w I) ((c.drop o).take n) vs ∧ vs.length = n ∧ ∀ (j : Nat) u, vs[j]? = some u → w.cell? ⟨b, oo + (i * k + o) + j, none⟩ = some u ∧ I b (oo + (i * k + o) + j) := by
  have hlt : i < xs.length := (List.getElem?_eq_some_iff.1 hc).1
  have hck : c.length = k := h.hk c (List.mem_of_getElem? hc)
  have hul : us.length = xs.length * k := by rw [h.hl, flatten_length h.hk]
  have e : (c.drop o).take n = (xs.flatten.drop (i * k + o)).take n := by
    apply List.ext_getElem?
    intro j
    by_cases hj : j < n
    · rw [List.getElem?_take_of_lt hj, List.getElem?_take_of_lt hj, List.getElem?_drop, List.getElem?_drop]
      rw [Nat.add_assoc, flatten_get h.hk hc (o + j) (by omega)]
    · rw [List.getElem?_take_eq_none (by omega), List.getElem?_take_eq_none (by omega)]
  refine ⟨(us.drop (i * k + o)).take n, ?_, ?_, ?_⟩
  · rw [e]
    exact F2.take n (F2.drop _ (F2.of h.hl.symm fun j x u hx hu => h.hr j x u hx hu))
  · have : (i + 1) * k ≤ xs.length * k := Nat.mul_le_mul_right _ hlt
    rw [Nat.add_mul] at this
    simp only [List.length_take, List.length_drop, hul]
    omega
  · intro j u hu
    rw [List.getElem?_take] at hu
    split at hu
    · rw [List.getElem?_drop] at hu
      have := h.hc _ u hu
      rw [← Nat.add_assoc] at this
      exact this
    · cases hu
end


/-! ### Writing -/
/-- us in the place of as many of l, from p on. -/
def sp {α : Type} (l : List α) (p : Nat) (us : List α) : List α := l.take p ++ us ++ l.drop (p + us.length)

theorem sp_get {α : Type} {l : List α} {p : Nat} {us : List α} (h : p + us.length ≤ l.length) (j : Nat) : (sp l p us)[j]? = if j < p then l[j]? else if j < p + us.length then us[j - p]? else l[j]? := by
  unfold sp
  have hp : (l.take p).length = p := by simp; omega
  by_cases h1 : j < p
  · rw [if_pos h1, List.append_assoc, List.getElem?_append_left (by rw [hp]; exact h1), List.getElem?_take_of_lt h1]
  · rw [if_neg h1]
    by_cases h2 : j < p + us.length
    · rw [if_pos h2, List.append_assoc, List.getElem?_append_right (by rw [hp]; omega), hp, List.getElem?_append_left (by omega)]
    · rw [if_neg h2, List.append_assoc, List.getElem?_append_right (by rw [hp]; omega), hp, List.getElem?_append_right (by omega), List.getElem?_drop]
      congr 1; omega

theorem sp_length {α : Type} {l : List α} {p : Nat} {us : List α} (h : p + us.length ≤ l.length) : (sp l p us).length = l.length := by
  simp [sp]; omega

theorem F2.sp {α β : Type} {R : α → β → Prop} {xs : List α} {ys : List β} {as : List α} {bs : List β} (h : F2 R xs ys) (h' : F2 R as bs) (p : Nat) : F2 R (sp xs p as) (sp ys p bs) := by
  unfold V.sp
  rw [F2.length h']
  exact F2.append (F2.append (F2.take p h) h') (F2.drop _ h)

theorem sp_flatten {α : Type} {k : Nat} {xs : List (List α)} (hk : ∀ x ∈ xs, x.length = k) {i o : Nat} {c cs : List α} (hc : xs[i]? = some c) (ho : o + cs.length ≤ c.length) :
    (xs.set i (c.take o ++ cs ++ c.drop (o + cs.length))).flatten = sp xs.flatten (i * k + o) cs := by
  have hlt : i < xs.length := (List.getElem?_eq_some_iff.1 hc).1
  have hck : c.length = k := hk c (List.mem_of_getElem? hc)
  have hl : xs.flatten.length = xs.length * k := flatten_length hk
  have hm : (i + 1) * k ≤ xs.length * k := Nat.mul_le_mul_right _ hlt
  rw [Nat.add_mul] at hm
  have e : c.take o ++ cs ++ c.drop (o + cs.length) = sp c o cs := rfl
  have hsl : (sp c o cs).length = k := by rw [sp_length ho, hck]
  rw [e, flatten_set hk hlt hsl]
  have e2 : xs.flatten.take (i * k) ++ sp c o cs ++ xs.flatten.drop (i * k + k) = sp xs.flatten (i * k) (sp c o cs) := by unfold sp; rw [show (c.take o ++ cs ++ c.drop (o + cs.length)).length = k from hsl]
  rw [e2]
  apply List.ext_getElem?
  intro j
  rw [sp_get (l := xs.flatten) (p := i * k) (by rw [hsl, hl]; omega), sp_get (l := xs.flatten) (p := i * k + o) (us := cs) (by rw [hl]; omega), hsl]
  by_cases h1 : j < i * k
  · rw [if_pos h1, if_pos (by omega)]
  · rw [if_neg h1]
    by_cases h2 : j < i * k + k
    · rw [if_pos h2, sp_get (l := c) (p := o) (us := cs) ho]
      have hg := flatten_get hk hc (j - i * k) (by omega)
      rw [show i * k + (j - i * k) = j by omega] at hg
      by_cases h3 : j - i * k < o
      · rw [if_pos h3, if_pos (by omega), hg]
      · rw [if_neg h3, if_neg (show ¬ j < i * k + o by omega)]
        by_cases h4 : j - i * k < o + cs.length
        · rw [if_pos h4, if_pos (show j < i * k + o + cs.length by omega)]
          congr 1; omega
        · rw [if_neg h4, if_neg (show ¬ j < i * k + o + cs.length by omega), hg]
    · rw [if_neg h2, if_neg (by omega), if_neg (by omega)]

section
variable {P : Program} {t : TypeId} {d : TD} {w : World} {I : Imm} {μ : Mu} {L : Lens}

theorem run_storeV (h : td P t = some d) {b o e : Nat} {cur : Array Value} {us : List Value} (hh : w.heap[b]? = some (.cells cur e (0, 0))) {v : Value} (hv : v.cells.toList = us) (hl : us.length = d.size)
    (ho : o + us.length ≤ cur.size) (h1 : ∀ u ∈ us, u.oneCell' = true) : (storeVar t ⟨b, o, none⟩ v).run P w = .ok () (w.setRow b (sp cur.toList o us).toArray) := by
  have hvs : v.cells.size = d.size := by rw [← hl, ← hv]; simp
  have hst := run_storeCells_at P b o e us 0 cur w hh (by omega) h1
  simp only [storeVar, Sem.run_bind, run_sizeOf h, Result.andThen_ok, hvs, ne_eq, not_true_eq_false, if_false, hv]
  simp only [Nat.add_zero] at hst
  exact hst

/-- A root of which cells are written. -/
theorem RR.put {r r' : Root} {f : Info} {i o : Nat} {cs : List D} {us : List Value} (h : RR w I μ L r f) (hs : r.set i o cs = some r') (hcs : F2 (DR w I μ L) cs us) :
    ∃ b cur, f.b = some b ∧ w.heap[b]? = some (.cells cur f.e (0, 0)) ∧ i * f.k + o + us.length ≤ cur.size ∧
      ∀ w', w'.heap[b]? = some (.cells (sp cur.toList (i * f.k + o) us).toArray f.e (0, 0)) → Stays w I w' I → RR w' I μ L r' f := by
  have key : ∀ {α : Type} {R : α → Value → Prop} {xs : List (List α)} {vs : List Value} {c as : List α}, (∀ x ∈ xs, x.length = f.k) → F2 R xs.flatten vs → Own w f xs.length vs → xs[i]? = some c → o + as.length ≤ c.length →
      F2 R as us → ∃ b cur, f.b = some b ∧ w.heap[b]? = some (.cells cur f.e (0, 0)) ∧ i * f.k + o + us.length ≤ cur.size ∧
        ∀ (w' : World) (R' : α → Value → Prop), w'.heap[b]? = some (.cells (sp cur.toList (i * f.k + o) us).toArray f.e (0, 0)) → (∀ a u, R a u → R' a u) →
          (∀ x ∈ xs.set i (c.take o ++ as ++ c.drop (o + as.length)), x.length = f.k) ∧
          ∃ vs', F2 R' (xs.set i (c.take o ++ as ++ c.drop (o + as.length))).flatten vs' ∧ Own w' f (xs.set i (c.take o ++ as ++ c.drop (o + as.length))).length vs' := by
    intro α R xs vs c as hk h2 h3 hc hon has
    have hlt : i < xs.length := (List.getElem?_eq_some_iff.1 hc).1
    have hck : c.length = f.k := hk c (List.mem_of_getElem? hc)
    have hm : (i + 1) * f.k ≤ xs.length * f.k := Nat.mul_le_mul_right _ hlt
    rw [Nat.add_mul] at hm
    have hal := F2.length has
    obtain ⟨h4, h5⟩ := h3
    cases hb : f.b with
    | none => rw [hb] at h5; omega
    | some b =>
      rw [hb] at h5
      obtain ⟨cur, hh, hn, hcap, hcs, ht⟩ := h5
      have hm2 : xs.length * f.k ≤ f.cap * f.k := Nat.mul_le_mul_right _ hn
      refine ⟨b, cur, rfl, hh, by omega, fun w' R' hw' hR => ⟨?_, sp vs (i * f.k + o) us, ?_, ?_, ?_⟩⟩
      · intro x hx
        rcases List.mem_or_eq_of_mem_set hx with hx | rfl
        · exact hk x hx
        · simp; omega
      · rw [sp_flatten hk hc hon]
        exact F2.mono hR (F2.sp h2 has _)
      · rw [sp_length (by omega), List.length_set, h4]
      · rw [hb]
        refine ⟨_, hw', by simpa using hn, hcap, by simp only [List.size_toArray]; rw [sp_length (by simp; omega)]; simpa using hcs, ?_⟩
        rw [List.length_set]
        apply List.ext_getElem?
        intro j
        have hcl : i * f.k + o + us.length ≤ cur.toList.length := by simp; omega
        rw [List.getElem?_take]
        by_cases hj : j < xs.length * f.k
        · rw [if_pos hj, sp_get hcl, sp_get (by omega)]
          have hjc : cur.toList[j]? = vs[j]? := by rw [← ht, List.getElem?_take_of_lt hj]
          rw [hjc]
        · rw [if_neg hj, List.getElem?_eq_none]
          rw [sp_length (by omega)]
          omega
  unfold Root.set at hs
  cases r with
  | row kk xs =>
    obtain ⟨hk, ⟨vs, h2, h3⟩, hkk⟩ := h
    simp only at hs
    split at hs
    · rename_i c as hc ha
      split at hs
      · rename_i hon
        cases hs
        have hca := unCs_spec ha
        subst hca
        try simp only [List.length_map] at hon ⊢
        have has : F2 (CR w I) as us := by
          refine F2.of (by simpa using F2.length hcs) fun j x u hx hu => ?_
          obtain ⟨y, hy, hr⟩ := F2.get hcs j (.c x) (by simp [hx])
          rw [hu] at hy; cases hy; exact hr
        obtain ⟨b, cur, a1, a2, a3, a4⟩ := key hk h2 h3 hc hon has
        exact ⟨b, cur, a1, a2, a3, fun w' hw' hst => by
          obtain ⟨b1, b2⟩ := a4 w' (CR w' I) hw' fun _ _ h => h.mono hst
          exact ⟨b1, b2, hkk⟩⟩
      · cases hs
    · cases hs
  | bx xs =>
    obtain ⟨hk, vs, h2, h3⟩ := h
    simp only at hs
    split at hs
    · rename_i c hc
      split at hs
      · rename_i hon
        cases hs
        obtain ⟨b, cur, a1, a2, a3, a4⟩ := key hk h2 h3 hc hon hcs
        exact ⟨b, cur, a1, a2, a3, fun w' hw' hst => a4 w' (DR w' I μ L) hw' fun _ _ h => h.mono hst (Kept.refl _ _)⟩
      · cases hs
    · cases hs
  | it s p => cases hs
  | mp es => cases hs
end

end Go.Proofs.YtcgkhljolflenaaGreatW.V

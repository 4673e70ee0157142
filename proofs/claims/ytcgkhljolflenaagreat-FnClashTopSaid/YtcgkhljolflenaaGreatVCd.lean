/- Plain values of Lean and the cells that hold them. No condition but each theorem's own. -/
import Derived.Test.YtcgkhljolflenaaGreatVZ
namespace Go.Proofs.YtcgkhljolflenaaGreatW.V
open Go

def LeC (y z : C) : Prop := ∀ (w : World) (I : Imm) (u : Value), CR w I y u → CR w I z u

theorem F2.trans {α β γ : Type} {R : α → β → Prop} {S : β → γ → Prop} {T : α → γ → Prop} (h : ∀ a b c, R a b → S b c → T a c) : ∀ {xs : List α} {ys : List β} {zs : List γ}, F2 R xs ys → F2 S ys zs → F2 T xs zs
  | _, _, _, .nil, .nil => .nil
  | _, _, _, .cons a b, .cons c d => .cons (h _ _ _ a c) (F2.trans h b d)
theorem F2.swap {α β : Type} {R : α → β → Prop} : ∀ {xs : List α} {ys : List β}, F2 R xs ys → F2 (fun b a => R a b) ys xs
  | _, _, .nil => .nil
  | _, _, .cons a b => .cons a (F2.swap b)
theorem F2.flatten {α β : Type} {R : α → β → Prop} : ∀ {xs : List (List α)} {ys : List (List β)}, F2 (F2 R) xs ys → F2 R xs.flatten ys.flatten
  | _, _, .nil => .nil
  | _, _, .cons a b => F2.append a (F2.flatten b)

structure Cd (X : Type) where
  n : Nat
  enc : X → List C
  dec : List C → Option X
  len : ∀ x, (enc x).length = n
  rt : ∀ x, dec (enc x) = some x
  ok : ∀ cs x, dec cs = some x → F2 LeC cs (enc x)

theorem LeC.refl (y : C) : LeC y y := fun _ _ _ h => h
theorem F2.leRefl : ∀ (l : List C), F2 LeC l l
  | [] => .nil
  | y :: l => .cons (LeC.refl y) (F2.leRefl l)

def cInt (k : IntKind) : Cd Int where
  n := 1
  enc x := [.v (.int k x)]
  dec cs := match cs with
    | [.v (.int k' x)] => if k' = k then some x else none
    | _ => none
  len _ := rfl
  rt _ := by simp
  ok cs x h := by
    split at h
    · split at h
      · rename_i e; cases h; subst e; exact F2.leRefl _
      · cases h
    · cases h
def cBool : Cd Bool where
  n := 1
  enc x := [.v (.bool x)]
  dec cs := match cs with
    | [.v (.bool x)] => some x
    | _ => none
  len _ := rfl
  rt _ := rfl
  ok cs x h := by
    split at h
    · cases h; exact F2.leRefl _
    · cases h
def cStr : Cd ByteArray where
  n := 1
  enc x := [.v (.string x)]
  dec cs := match cs with
    | [.v (.string x)] => some x
    | _ => none
  len _ := rfl
  rt _ := rfl
  ok cs x h := by
    split at h
    · cases h; exact F2.leRefl _
    · cases h

theorem mapO_enc {X : Type} {f : X → List C} {g : List C → Option X} (h : ∀ x, g (f x) = some x) : ∀ l : List X, mapO g (l.map f) = some l
  | [] => rfl
  | x :: l => by simp only [List.map_cons, mapO, h, mapO_enc h l]

theorem LeC.list {rows rows' : List (List C)} {k : Nat} (h : F2 (F2 LeC) rows rows') (hk : ∀ x ∈ rows', x.length = k) : LeC (.s rows) (.s rows') := fun w I u hu => by
  have hlen := F2.length h
  cases hu with
  | nil q c => cases h; exact .nil q c
  | s xs b o k' c us hcap hk' hl hc hr =>
    rw [hlen]
    have hfl := F2.length (F2.flatten h)
    refine .s rows' b o k c us (by omega) hk (by omega) hc fun j z v hz hv => ?_
    obtain ⟨y, hy, hyz⟩ := F2.get (F2.swap (F2.flatten h)) j z hz
    exact hyz w I v (hr j y v hy hv)

def cList {X : Type} (c : Cd X) : Cd (List X) where
  n := 1
  enc xs := [.s (xs.map c.enc)]
  dec cs := match cs with
    | [.s rows] => mapO c.dec rows
    | [.v (.slice none 0 0)] => some []
    | _ => none
  len _ := rfl
  rt xs := mapO_enc c.rt xs
  ok cs xs h := by
    split at h
    · refine .cons (LeC.list (k := c.n) (F2.mono (fun _ _ h => h) ?_) fun y hy => ?_) .nil
      · have := mapO_spec h
        clear h
        induction this with
        | nil => exact .nil
        | cons h1 h2 ih => exact .cons (c.ok _ _ h1) ih
      · obtain ⟨x, _, rfl⟩ := List.mem_map.1 hy
        exact c.len x
    · cases h
      refine .cons (fun w I u hu => ?_) .nil
      cases hu with
      | v h => exact .nil none 0
    · cases h

def cPair {X Y : Type} (a : Cd X) (b : Cd Y) : Cd (X × Y) where
  n := a.n + b.n
  enc p := a.enc p.1 ++ b.enc p.2
  dec cs := match a.dec (cs.take a.n), b.dec (cs.drop a.n) with
    | some x, some y => some (x, y)
    | _, _ => none
  len p := by simp [a.len, b.len]
  rt p := by
    have h1 : (a.enc p.1 ++ b.enc p.2).take a.n = a.enc p.1 := by rw [List.take_append_of_le_length (by rw [a.len]; omega), List.take_of_length_le (by rw [a.len]; omega)]
    have h2 : (a.enc p.1 ++ b.enc p.2).drop a.n = b.enc p.2 := by rw [← a.len p.1, List.drop_left]
    simp only [h1, h2, a.rt, b.rt]
  ok cs p h := by
    split at h
    · rename_i x y h1 h2
      cases h
      have := F2.append (a.ok _ _ h1) (b.ok _ _ h2)
      rwa [List.take_append_drop] at this
    · cases h

def cMap {X Y : Type} (c : Cd X) (f : X → Y) (g : Y → X) (hfg : ∀ y, f (g y) = y) (hgf : ∀ x, g (f x) = x) : Cd Y where
  n := c.n
  enc y := c.enc (g y)
  dec cs := match c.dec cs with
    | some x => some (f x)
    | none => none
  len y := c.len _
  rt y := by simp only [c.rt, hfg]
  ok cs y h := by
    split at h
    · rename_i x hx; cases h; rw [hgf]; exact c.ok _ _ hx
    · cases h

/-! ### As values -/
structure CE (X : Type) where
  enc : X → E
  dec : E → Option X
  rt : ∀ x, dec (enc x) = some x
  ok : ∀ e x, dec e = some x → LeE e (enc x)

theorem F2.le {w : World} {I : Imm} {μ : Mu} {L : Lens} : ∀ {cs cs' : List C} {us : List Value}, F2 LeC cs cs' → F2 (DR w I μ L) (cs.map .c) us → F2 (DR w I μ L) (cs'.map .c) us
  | _, _, _, .nil, h => h
  | _, _, _, .cons h1 h2, .cons h3 h4 => .cons (h1 w I _ h3) (F2.le h2 h4)

theorem unCs_mapc : ∀ (cs : List C), unCs (cs.map D.c) = some cs
  | [] => rfl
  | y :: l => by simp [unCs, unCs_mapc l]
theorem unCs_c : ∀ {ds : List D} {cs : List C}, unCs ds = some cs → ds = cs.map D.c
  | [], cs, h => by simp [unCs] at h; subst h; rfl
  | .c y :: l, cs, h => by
    simp only [unCs] at h
    split at h
    · rename_i ys' h2
      have e := Option.some.inj h
      rw [← e, unCs_c h2]; rfl
    · cases h
  | .h .. :: l, cs, h => by simp [unCs] at h
  | .p .. :: l, cs, h => by simp [unCs] at h
  | .e .. :: l, cs, h => by simp [unCs] at h

/-- A struct, an array. -/
def CE.st {X : Type} (c : Cd X) : CE X where
  enc x := .x (.a ((c.enc x).map .c))
  dec e := match e with
    | .x (.a ds) => match unCs ds with
      | some cs => c.dec cs
      | none => none
    | _ => none
  rt x := by simp only [unCs_mapc, c.rt]
  ok e x h := by
    split at h
    · split at h
      · rename_i ds cs hcs
        have := unCs_c hcs
        subst this
        intro w I μ L u ⟨us, e, hu⟩
        exact ⟨us, e, F2.le (c.ok _ _ h) hu⟩
      · cases h
    · cases h

def oneC : List C → E
  | [y] => .x (.o (.c y))
  | _ => .t []
/-- What takes one cell. -/
def CE.one {X : Type} (c : Cd X) (hn : c.n = 1) : CE X where
  enc x := oneC (c.enc x)
  dec e := match e with
    | .x (.o (.c y)) => c.dec [y]
    | _ => none
  rt x := by
    have h1 := c.len x
    have h2 := c.rt x
    rw [hn] at h1
    match hx : c.enc x with
    | [y] => rw [hx] at h2; simpa [oneC] using h2
    | [] => rw [hx] at h1; cases h1
    | _ :: _ :: _ => rw [hx] at h1; simp at h1
  ok e x h := by
    split at h
    · rename_i y
      have h1 := c.ok _ _ h
      generalize c.enc x = l at h1
      cases h1 with
      | cons h2 h3 =>
        cases h3
        intro w I μ L u hu
        exact h2 w I u hu
    · cases h

@[go_sem] theorem cInt_n (k : IntKind) : (cInt k).n = 1 := rfl
@[go_sem] theorem cBool_n : cBool.n = 1 := rfl
@[go_sem] theorem cStr_n : cStr.n = 1 := rfl
@[go_sem] theorem cList_n {X : Type} (c : Cd X) : (cList c).n = 1 := rfl
abbrev eInt (k : IntKind) : CE Int := CE.one (cInt k) (cInt_n k)
abbrev eBool : CE Bool := CE.one cBool cBool_n
abbrev eStr : CE ByteArray := CE.one cStr cStr_n
abbrev eList {X : Type} (c : Cd X) : CE (List X) := CE.one (cList c) (cList_n c)

/-- Several results. -/
def asX : E → A
  | .x y => y
  | .t _ => .a []
theorem LeE.asX {e : A} {e' : E} (h : LeE (.x e) e') (hx : ∃ y, e' = .x y) : ∀ (w : World) (I : Imm) (μ : Mu) (L : Lens) (u : Value), AR w I μ L e u → AR w I μ L (V.asX e') u := by
  obtain ⟨y, rfl⟩ := hx
  exact fun w I μ L u hu => h w I μ L u hu
def eT2 {X Y : Type} (a : CE X) (b : CE Y) (ha : ∀ x, ∃ y, a.enc x = .x y) (hb : ∀ x, ∃ y, b.enc x = .x y) : CE (X × Y) where
  enc p := .t [asX (a.enc p.1), asX (b.enc p.2)]
  dec e := match e with
    | .t [p, q] => match a.dec (.x p), b.dec (.x q) with
      | some x, some y => some (x, y)
      | _, _ => none
    | _ => none
  rt p := by
    obtain ⟨y, hy⟩ := ha p.1
    obtain ⟨z, hz⟩ := hb p.2
    have h1 := a.rt p.1
    have h2 := b.rt p.2
    rw [hy] at h1; rw [hz] at h2
    simp only [hy, hz, asX, h1, h2]
  ok e p h := by
    split at h
    · split at h
      · rename_i p' q' _ _ x y h1 h2
        cases h
        intro w I μ L u ⟨us, e, hu⟩
        refine ⟨us, e, ?_⟩
        cases hu with
        | cons h3 h4 => cases h4 with
          | cons h5 h6 => cases h6; exact .cons ((a.ok _ _ h1).asX (ha _) w I μ L _ h3) (.cons ((b.ok _ _ h2).asX (hb _) w I μ L _ h5) .nil)
      · cases h
    · cases h
theorem st_x {X : Type} (c : Cd X) (x : X) : ∃ y, (CE.st c).enc x = .x y := ⟨_, rfl⟩
theorem one_x {X : Type} (c : Cd X) (h : c.n = 1) (x : X) : ∃ y, (CE.one c h).enc x = .x y := by
  have h1 := c.len x
  rw [h] at h1
  match hx : c.enc x with
  | [y] => exact ⟨.o (.c y), by show oneC (c.enc x) = _; rw [hx]; rfl⟩
  | [] => rw [hx] at h1; cases h1
  | _ :: _ :: _ => rw [hx] at h1; simp at h1

/-! ### Functions of plain values -/
/-- A function that answers a plain value. -/
theorem VFun_pure {P : Program} {f : FuncId} {fn : Func} {c : Code} {n : Nat} {rs : List ResultVar} (hf : P.funcs[f]? = some fn) (hb : fn.body = some c) (hnm : (fn.name == "runtime.NumGoroutine") = false) (hn : fn.ntmps = n) (hrs : fn.results.toList = rs) (H : Hint) (hH : H.ok P) {args : List E} {R : Type} (r : CE R) (y : R)
    (hlen : args.length ≤ n) (hwf : wfCode H.an n c = true) (h : force (startV args []) fun l => vcode P H n c l (endV P H rs 0 (fun e => r.dec e = some y) [])) : VFun P f args [] (r.enc y) [] :=
  VFun_gen (rin := []) hf hb hnm hn hrs H hH (fun e he => r.ok e y he) hlen hwf h
theorem VFun.weaken {P : Program} {f : FuncId} {args args' : List E} {rin : List (Option Root)} {res : E} {rout : List (Option Root)} (h : VFun P f args' rin res rout) (hle : F2 LeE args args') : VFun P f args rin res rout :=
  ⟨h.1, fun w I μ us hargs hr hI => h.2 w I μ us (by
    have key : ∀ {as as' : List E} {us : List Value}, F2 LeE as as' → F2 (ER w I μ (lensL rin)) as us → F2 (ER w I μ (lensL rin)) as' us := by
      intro as as' us h1
      induction h1 generalizing us with
      | nil => intro h; exact h
      | cons h1 h2 ih => intro h; cases h with | cons h3 h4 => exact .cons (h1 w I μ _ _ h3) (ih h4)
    exact key hle hargs) hr hI⟩

variable {P : Program} {g : FuncId} {A1 A2 A3 A4 A5 A6 R : Type}
def FM.f1 (a : CE A1) (r : R → E) (f : A1 → R) (pre : A1 → Prop) : FM := ⟨[], fun args rin => match args, rin with
  | [e1], [] => match a.dec e1 with
    | some x => some (r (f x), [], pre x)
    | none => none
  | _, _ => none⟩
theorem FM.f1_ok {a : CE A1} {r : R → E} {f : A1 → R} {pre : A1 → Prop} (h : ∀ x, pre x → VFun P g [a.enc x] [] (r (f x)) []) : (FM.f1 a r f pre).ok P g := by
  intro args rin res rout p hm hp
  simp only [FM.f1] at hm
  split at hm
  · split at hm
    · rename_i hx; cases hm; exact (h _ hp).weaken (.cons (a.ok _ _ hx) .nil)
    · cases hm
  · cases hm
def FM.f2 (a : CE A1) (b : CE A2) (r : R → E) (f : A1 → A2 → R) (pre : A1 → A2 → Prop) : FM := ⟨[], fun args rin => match args, rin with
  | [e1, e2], [] => match a.dec e1, b.dec e2 with
    | some x, some y => some (r (f x y), [], pre x y)
    | _, _ => none
  | _, _ => none⟩
theorem FM.f2_ok {a : CE A1} {b : CE A2} {r : R → E} {f : A1 → A2 → R} {pre : A1 → A2 → Prop} (h : ∀ x y, pre x y → VFun P g [a.enc x, b.enc y] [] (r (f x y)) []) : (FM.f2 a b r f pre).ok P g := by
  intro args rin res rout p hm hp
  simp only [FM.f2] at hm
  split at hm
  · split at hm
    · rename_i hx hy; cases hm; exact (h _ _ hp).weaken (.cons (a.ok _ _ hx) (.cons (b.ok _ _ hy) .nil))
    · cases hm
  · cases hm
def FM.f3 (a : CE A1) (b : CE A2) (c : CE A3) (r : R → E) (f : A1 → A2 → A3 → R) (pre : A1 → A2 → A3 → Prop) : FM := ⟨[], fun args rin => match args, rin with
  | [e1, e2, e3], [] => match a.dec e1, b.dec e2, c.dec e3 with
    | some x, some y, some z => some (r (f x y z), [], pre x y z)
    | _, _, _ => none
  | _, _ => none⟩
theorem FM.f3_ok {a : CE A1} {b : CE A2} {c : CE A3} {r : R → E} {f : A1 → A2 → A3 → R} {pre : A1 → A2 → A3 → Prop} (h : ∀ x y z, pre x y z → VFun P g [a.enc x, b.enc y, c.enc z] [] (r (f x y z)) []) : (FM.f3 a b c r f pre).ok P g := by
  intro args rin res rout p hm hp
  simp only [FM.f3] at hm
  split at hm
  · split at hm
    · rename_i hx hy hz; cases hm; exact (h _ _ _ hp).weaken (.cons (a.ok _ _ hx) (.cons (b.ok _ _ hy) (.cons (c.ok _ _ hz) .nil)))
    · cases hm
  · cases hm
def FM.f4 (a : CE A1) (b : CE A2) (c : CE A3) (d : CE A4) (r : R → E) (f : A1 → A2 → A3 → A4 → R) (pre : A1 → A2 → A3 → A4 → Prop) : FM := ⟨[], fun args rin => match args, rin with
  | [e1, e2, e3, e4], [] => match a.dec e1, b.dec e2, c.dec e3, d.dec e4 with
    | some x, some y, some z, some v => some (r (f x y z v), [], pre x y z v)
    | _, _, _, _ => none
  | _, _ => none⟩
theorem FM.f4_ok {a : CE A1} {b : CE A2} {c : CE A3} {d : CE A4} {r : R → E} {f : A1 → A2 → A3 → A4 → R} {pre : A1 → A2 → A3 → A4 → Prop} (h : ∀ x y z v, pre x y z v → VFun P g [a.enc x, b.enc y, c.enc z, d.enc v] [] (r (f x y z v)) []) :
    (FM.f4 a b c d r f pre).ok P g := by
  intro args rin res rout p hm hp
  simp only [FM.f4] at hm
  split at hm
  · split at hm
    · rename_i hx hy hz hv; cases hm; exact (h _ _ _ _ hp).weaken (.cons (a.ok _ _ hx) (.cons (b.ok _ _ hy) (.cons (c.ok _ _ hz) (.cons (d.ok _ _ hv) .nil))))
    · cases hm
  · cases hm

/-- A table of what is known. -/
theorem okN {P : Program} {H : Hint} (hfs : H.fs = []) (hmix : P.follows .mixedOrders = true) (hrs : H.rs = [] := by rfl) : H.ok P := ⟨fun f F h => (by rw [hfs] at h; cases h), fun f F h => (by rw [hrs] at h; cases h), hmix⟩
inductive AllOk (P : Program) : List (FuncId × FM) → Prop
  | nil : AllOk P []
  | cons {f : FuncId} {F : FM} {l : List (FuncId × FM)} (h : F.ok P f) (hl : AllOk P l) : AllOk P ((f, F) :: l)
theorem AllOk.get {P : Program} : ∀ {l : List (FuncId × FM)}, AllOk P l → ∀ f F, lk l f = some F → F.ok P f
  | _, .nil, _, _, h => by cases h
  | _, .cons h hl, f, F, hf => by
    simp only [lk] at hf
    split at hf
    · rename_i e; cases hf; subst e; exact h
    · exact hl.get f F hf
theorem AllOk.ok {P : Program} {H : Hint} (h : AllOk P H.fs) (hmix : P.follows .mixedOrders = true) (hrs : H.rs = [] := by rfl) : H.ok P := ⟨h.get, fun f F h => (by rw [hrs] at h; cases h), hmix⟩
inductive AllR (P : Program) : List (FuncId × FR) → Prop
  | nil : AllR P []
  | cons {f : FuncId} {F : FR} {l : List (FuncId × FR)} (h : F.ok P f) (hl : AllR P l) : AllR P ((f, F) :: l)
theorem AllR.get {P : Program} : ∀ {l : List (FuncId × FR)}, AllR P l → ∀ f F, lk l f = some F → F.ok P f
  | _, .nil, _, _, h => by cases h
  | _, .cons h hl, f, F, hf => by
    simp only [lk] at hf
    split at hf
    · rename_i e; cases hf; subst e; exact h
    · exact hl.get f F hf
theorem AllOk.okR {P : Program} {H : Hint} (h : AllOk P H.fs) (hr : AllR P H.rs) (hmix : P.follows .mixedOrders = true) : H.ok P := ⟨h.get, hr.get, hmix⟩

@[go_sem] theorem cInt_enc (k : IntKind) (x : Int) : (cInt k).enc x = [.v (.int k x)] := rfl
@[go_sem] theorem cBool_enc (x : Bool) : cBool.enc x = [.v (.bool x)] := rfl
@[go_sem] theorem cStr_enc (x : ByteArray) : cStr.enc x = [.v (.string x)] := rfl
@[go_sem] theorem cList_enc {X : Type} (c : Cd X) (xs : List X) : (cList c).enc xs = [.s (xs.map c.enc)] := rfl
@[go_sem] theorem cPair_enc {X Y : Type} (a : Cd X) (b : Cd Y) (p : X × Y) : (cPair a b).enc p = a.enc p.1 ++ b.enc p.2 := rfl
@[go_sem] theorem cMap_enc {X Y : Type} (c : Cd X) (f : X → Y) (g : Y → X) (h1 : ∀ y, f (g y) = y) (h2 : ∀ x, g (f x) = x) (y : Y) : (cMap c f g h1 h2).enc y = c.enc (g y) := rfl
@[go_sem] theorem cInt_dec (k : IntKind) (x : Int) : (cInt k).dec [.v (.int k x)] = some x := (cInt k).rt x
@[go_sem] theorem cBool_dec (x : Bool) : cBool.dec [.v (.bool x)] = some x := rfl
@[go_sem] theorem cStr_dec (x : ByteArray) : cStr.dec [.v (.string x)] = some x := rfl
@[go_sem] theorem cList_dec {X : Type} (c : Cd X) (xs : List (List C)) : (cList c).dec [.s xs] = mapO c.dec xs := rfl
@[go_sem] theorem cList_nil {X : Type} (c : Cd X) : (cList c).dec [.v (.slice none 0 0)] = some [] := rfl
@[go_sem] theorem mapO_dec {X : Type} (c : Cd X) (xs : List X) : mapO c.dec (xs.map c.enc) = some xs := mapO_enc c.rt xs
@[go_sem] theorem take_map_len {X Y : Type} (f : X → Y) (xs : List X) : (xs.map f).take xs.length = xs.map f := List.take_of_length_le (by simp)
@[go_sem] theorem cPair_dec {X Y : Type} (a : Cd X) (b : Cd Y) (cs : List C) : (cPair a b).dec cs = match a.dec (cs.take a.n), b.dec (cs.drop a.n) with | some x, some y => some (x, y) | _, _ => none := rfl
@[go_sem] theorem cMap_dec {X Y : Type} (c : Cd X) (f : X → Y) (g : Y → X) (h1 : ∀ y, f (g y) = y) (h2 : ∀ x, g (f x) = x) (cs : List C) : (cMap c f g h1 h2).dec cs = match c.dec cs with | some x => some (f x) | none => none := rfl
@[go_sem] theorem cPair_n {X Y : Type} (a : Cd X) (b : Cd Y) : (cPair a b).n = a.n + b.n := rfl
@[go_sem] theorem cMap_n {X Y : Type} (c : Cd X) (f : X → Y) (g : Y → X) (h1 : ∀ y, f (g y) = y) (h2 : ∀ x, g (f x) = x) : (cMap c f g h1 h2).n = c.n := rfl
@[go_sem] theorem st_enc {X : Type} (c : Cd X) (x : X) : (CE.st c).enc x = .x (.a ((c.enc x).map .c)) := rfl
@[go_sem] theorem st_dec {X : Type} (c : Cd X) (ds : List D) : (CE.st c).dec (.x (.a ds)) = match unCs ds with | some cs => c.dec cs | none => none := rfl
@[go_sem] theorem one_enc {X : Type} (c : Cd X) (h : c.n = 1) (x : X) : (CE.one c h).enc x = oneC (c.enc x) := rfl
@[go_sem] theorem one_dec {X : Type} (c : Cd X) (h : c.n = 1) (y : C) : (CE.one c h).dec (.x (.o (.c y))) = c.dec [y] := rfl
@[go_sem] theorem oneC_one (y : C) : oneC [y] = .x (.o (.c y)) := rfl
@[go_sem] theorem eT2_enc {X Y : Type} (a : CE X) (b : CE Y) (ha : ∀ x, ∃ y, a.enc x = .x y) (hb : ∀ x, ∃ y, b.enc x = .x y) (p : X × Y) : (eT2 a b ha hb).enc p = .t [asX (a.enc p.1), asX (b.enc p.2)] := rfl
@[go_sem] theorem eT2_dec {X Y : Type} (a : CE X) (b : CE Y) (ha : ∀ x, ∃ y, a.enc x = .x y) (hb : ∀ x, ∃ y, b.enc x = .x y) (p q : A) : (eT2 a b ha hb).dec (.t [p, q]) = match a.dec (.x p), b.dec (.x q) with | some x, some y => some (x, y) | _, _ => none := rfl
attribute [go_sem] asX
attribute [go_sem] FM.f1 FM.f2 FM.f3 FM.f4 eInt eBool eStr eList

end Go.Proofs.YtcgkhljolflenaaGreatW.V

/- Conversions, equality of structs. No condition but each theorem's own. -/
import Derived.Test.YtcgkhljolflenaaGreatVG
namespace Go.Proofs.YtcgkhljolflenaaGreatW.V
open Go

section
variable {P : Program} {x : Ctx} {μ : Mu} {I : Imm} {s : St} {a : Act} {w : World}

theorem go_convInt (h : RelX x μ I s a w) {o : Oper} {src dst : TypeId} {y : Operand} (ho : o.op = .convert src dst y) (hd : ∀ d, o.dst = some d → d < x.n) {d1 d2 : TD} (h1 : td P src = some d1) (h2 : td P dst = some d2) {k' : IntKind} (hk : d2.k = .int k')
    {k : IntKind} {n : Int} (he : evE s.env y = some (sc (.int k n))) {ob : Prop} : Goes P x o a w (s.app o.dst ⟨some (sc (.int k' (k'.wrap n))), [], false, ob⟩) := by
  have hy : a.eval y = .int k n := sc_er (evE_spec h he)
  obtain ⟨D, _, _, hD, _⟩ := td_spec h1
  refine goes_val h hd (e := sc _) (v := .int k' (k'.wrap n)) ?_ (.v _ rfl)
  simp [execOp, ho, hy, convert, run_underlying hD, run_underlying (td_int h2 hk), Conv.intToInt]

theorem go_convStr (h : RelX x μ I s a w) {o : Oper} {src dst : TypeId} {y : Operand} (ho : o.op = .convert src dst y) (hd : ∀ d, o.dst = some d → d < x.n) {d1 d2 : TD} (h1 : td P src = some d1) (h2 : td P dst = some d2) (hk : d2.k = .str)
    {b : ByteArray} (he : evE s.env y = some (sc (.string b))) {ob : Prop} : Goes P x o a w (s.app o.dst ⟨some (sc (.string b)), [], false, ob⟩) := by
  have hy : a.eval y = .string b := sc_er (evE_spec h he)
  obtain ⟨D, _, _, hD, _⟩ := td_spec h1
  refine goes_val h hd (e := sc _) (v := .string b) ?_ (.v _ rfl)
  simp [execOp, ho, hy, convert, run_underlying hD, run_underlying (td_str h2 hk)]

def bytesOf : List (List C) → Option (List UInt8)
  | [] => some []
  | [.v (.int .u8 n)] :: l => match bytesOf l with
    | some bs => some (UInt8.ofNat n.toNat :: bs)
    | none => none
  | _ => none

def encB (b : UInt8) : List C := [.v (.int .u8 b.toNat)]

theorem bytesOf_encB : ∀ (l : List UInt8), bytesOf (l.map encB) = some l
  | [] => rfl
  | b :: l => by
    show bytesOf ([C.v (.int .u8 b.toNat)] :: l.map encB) = _
    rw [bytesOf, bytesOf_encB l]
    simp

theorem bytesOf_append : ∀ (l l' : List (List C)) (m m' : List UInt8), bytesOf l = some m → bytesOf l' = some m' → bytesOf (l ++ l') = some (m ++ m')
  | [], _, _, _, h, h' => by simp [bytesOf] at h; subst h; simpa using h'
  | y :: l, l', m, m', h, h' => by
    unfold bytesOf at h
    split at h
    · cases ‹y :: l = []›
    · rename_i n l1 he
      cases he
      split at h
      · rename_i bs hbs
        cases h
        simp only [List.cons_append]
        rw [bytesOf, bytesOf_append _ l' bs m' hbs h']
      · cases h
    · cases h

theorem bytesOf_spec : ∀ {xs : List (List C)} {bs : List UInt8} {us : List Value}, bytesOf xs = some bs → F2 (CR w I) xs.flatten us →
    us.length = xs.length ∧ ∃ ns : List Int, us = ns.map (Value.int .u8) ∧ bs = ns.map fun n => UInt8.ofNat n.toNat
  | [], bs, us, h, h2 => by
    simp [bytesOf] at h; subst h
    cases h2
    exact ⟨rfl, [], rfl, rfl⟩
  | y :: l, bs, us, h, h2 => by
    unfold bytesOf at h
    split at h
    · cases ‹y :: l = []›
    · rename_i n l1 he
      cases he
      split at h
      · rename_i bs' hbs
        cases h
        simp only [List.flatten_cons, List.singleton_append] at h2
        cases h2 with
        | cons h3 h4 =>
          obtain ⟨e1, ns, e2, e3⟩ := bytesOf_spec hbs h4
          cases h3
          exact ⟨by simp [e1], n :: ns, by simp [e2], by simp [e3]⟩
      · cases h
    · cases h

theorem go_convBytes (h : RelX x μ I s a w) {o : Oper} {src dst et : TypeId} {y : Operand} (ho : o.op = .convert src dst y) (hd : ∀ d, o.dst = some d → d < x.n) {d1 d2 d3 : TD} (h1 : td P src = some d1) (hk1 : d1.k = .slice et) (h3 : td P et = some d3) (hk3 : d3.k = .int .u8)
    (h2 : td P dst = some d2) (hk : d2.k = .str) {e : E} (he : evE s.env y = some e) {xs : List (List C)} (hv : viewE s.rt e = some xs) {bs : List UInt8} (hb : bytesOf xs = some bs) {ob : Prop} :
    Goes P x o a w (s.app o.dst ⟨some (sc (.string ⟨bs.toArray⟩)), [], false, ob⟩) := by
  obtain ⟨q, c, e1, _, h4⟩ := view_spec h (evE_spec h he) hv
  have hc := run_convert_bytes_string (P := P) w src dst et q xs.length c (td_slice h1 hk1) (td_int h3 hk3) (td_str h2 hk)
  refine goes_val h hd (e := sc _) (v := .string ⟨bs.toArray⟩) ?_ (.v _ rfl)
  have key : (Conv.bytesToString (.slice q xs.length c)).run P w = .ok (.string ⟨bs.toArray⟩) w := by
    rcases h4 with rfl | ⟨b, oo, k, us, rfl, h5⟩
    · simp only [bytesOf, Option.some.injEq] at hb
      subst hb
      cases q with
      | none => simp [Conv.bytesToString]; rfl
      | some ad =>
        have := run_bytesToString (P := P) w ad 0 c [] (by simpa using run_loadCells_list (P := P) w ad [] (by simp))
        exact this
    · obtain ⟨e2, ns, e3, e4⟩ := bytesOf_spec hb h5.1.hr
      have hl := run_loadCells_list (P := P) w ⟨b, oo, none⟩ us (fun j v hv => by rw [Addr.add_lit]; exact h5.1.hc j v hv)
      rw [e2] at hl
      rw [e3] at hl
      rw [run_bytesToString (P := P) w ⟨b, oo, none⟩ xs.length c ns hl, foldl_push_bytes, e4]
      simp [ByteArray.empty, ByteArray.emptyWithCapacity]
      rfl
  simp only [execOp, ho, e1, Sem.run_bind, hc, key, Result.andThen_ok, Sem.run_pure]

theorem go_convToBytes (h : RelX x μ I s a w) {o : Oper} {src dst et : TypeId} {y : Operand} (ho : o.op = .convert src dst y) (hd : ∀ d, o.dst = some d → d < x.n) {d1 d2 d3 : TD} (h1 : td P src = some d1) (h2 : td P dst = some d2) (hk2 : d2.k = .slice et) (h3 : td P et = some d3) (hk3 : d3.k = .int .u8)
    {b : ByteArray} (he : evE s.env y = some (sc (.string b))) {ob : Prop} : Goes P x o a w (s.app o.dst ⟨some (.x (.o (.c (.s (b.data.toList.map encB))))), [], false, ob⟩) := by
  have hy : a.eval y = .string b := sc_er (evE_spec h he)
  obtain ⟨D, _, _, hD, _⟩ := td_spec h1
  have hrun := Lib.run_convert_string_bytes (P := P) w src dst et b hD (td_slice h2 hk2) (td_int h3 hk3)
  have hsz := Lib.bytesWorld_size w et b
  have hrel : RelX x μ (fun k j => I k j ∨ (k = w.heap.size ∧ j < b.size)) s a (Lib.bytesWorld w et b) := by
    refine h.master (S := fun _ => False) ⟨?_, ?_, ?_, by omega, fun k hk _ => Lib.bytesWorld_at_old w et b k hk⟩ (fun _ h _ => h.elim) (fun _ _ h => .inl h) (fun k j hk => ?_) (Kept.refl _ _) rfl rfl
      (fun _ i e he => .inl ⟨he, rfl⟩) (fun _ ρ r hr => .inl ⟨hr, rfl, fun f k hf hk => ⟨fun h => h, fun j hj => ?_⟩⟩) h.apart h.fresh
    · rfl
    · rfl
    · rfl
    · rcases hk with hk | ⟨rfl, hj⟩
      · exact .inl hk
      · exact .inr ⟨by omega, .inr h.gr.size⟩
    · obtain ⟨f', hf', _, h3⟩ := h.root ρ r hr
      rw [hf] at hf'; cases hf'
      rcases hj with hj | ⟨rfl, hj⟩
      · exact (h3 k hk).2.1 j hj
      · exact absurd (h3 _ hk).1 (Nat.lt_irrefl _)
  have hrun' : (execOp a.eval o).run P w = .ok (.value (.slice (some ⟨w.heap.size, 0, none⟩) b.size (grownCap w b.size 0 et))) (Lib.bytesWorld w et b) := by
    simp only [execOp, ho, hy, Sem.run_bind, hrun, Result.andThen_ok, Sem.run_pure]
  have hcap : b.size ≤ grownCap w b.size 0 et := grownCap_ge w b.size 0 et
  have hl : b.data.toList.length = b.size := by simp
  have hSB : SB (Lib.bytesWorld w et b) (fun k j => I k j ∨ (k = w.heap.size ∧ j < b.size)) (b.data.toList.map encB) w.heap.size 0 1 (b.data.toList.map fun c => .int .u8 c.toNat) := by
    have hflat : (b.data.toList.map encB).flatten = b.data.toList.map fun c => C.v (.int .u8 c.toNat) := by
      generalize b.data.toList = l
      induction l with
      | nil => rfl
      | cons c l ih => simp [encB] at ih ⊢; exact ih
    refine ⟨fun y hy => ?_, by rw [hflat]; simp, fun j u hu => ?_, fun j y u hy hu => ?_⟩
    · obtain ⟨c, _, rfl⟩ := List.mem_map.1 hy; rfl
    · rw [List.getElem?_map] at hu
      cases hj : b.data.toList[j]? with
      | none => rw [hj] at hu; cases hu
      | some c =>
        rw [hj] at hu
        cases hu
        have hlt : j < b.size := by rw [← hl]; exact (List.getElem?_eq_some_iff.1 hj).1
        refine ⟨?_, .inr ⟨rfl, by omega⟩⟩
        rw [Nat.zero_add, Lib.bytesWorld_cell w et b j hlt]
        simp [List.getD, hj]
    · rw [hflat, List.getElem?_map] at hy
      rw [List.getElem?_map] at hu
      cases hj : b.data.toList[j]? with
      | none => rw [hj] at hu; cases hu
      | some c =>
        rw [hj] at hu hy
        cases hu; cases hy
        exact .v _ rfl
  have her : ER (Lib.bytesWorld w et b) (fun k j => I k j ∨ (k = w.heap.size ∧ j < b.size)) μ s.L (.x (.o (.c (.s (b.data.toList.map encB))))) (.slice (some ⟨w.heap.size, 0, none⟩) b.size (grownCap w b.size 0 et)) := by
    have := hSB.cr (c := grownCap w b.size 0 et) (by simpa using hcap)
    rw [List.length_map, hl] at this
    exact this
  refine ⟨_, _, .inl hrun', μ, (fun k j => I k j ∨ (k = w.heap.size ∧ j < b.size)), ?_⟩
  cases hdst : o.dst with
  | none => simpa [St.app, hdst, Act.put] using hrel
  | some d => simpa [St.app] using hrel.put (hd d hdst) her

/-! ### Equality of structs -/
def eqFs (eq : TypeId → List Value → List Value → Option Bool) (sz : TypeId → Option Nat) : List (Nat × TypeId) → List Value → List Value → Option Bool
  | [], _, _ => some true
  | (off, ft) :: fs, xs, ys => match sz ft with
    | some n => if off + n ≤ xs.length ∧ off + n ≤ ys.length then match eq ft ((xs.drop off).take n) ((ys.drop off).take n), eqFs eq sz fs xs ys with
      | some r, some q => some (r && q)
      | _, _ => none else none
    | none => none

def eqT (P : Program) : Nat → TypeId → List Value → List Value → Option Bool
  | 0, _, _, _ => none
  | n + 1, t, xs, ys => match td P t with
    | some d => match d.k with
      | .int _ => match xs, ys with
        | [.int k m], [.int l q] => if k = l then some (decide (m = q)) else none
        | _, _ => none
      | .bool => match xs, ys with
        | [.bool m], [.bool q] => some (m == q)
        | _, _ => none
      | .str => match xs, ys with
        | [.string m], [.string q] => some (decide (m = q))
        | _, _ => none
      | .st fs => if d.eqok then eqFs (eqT P n) (fun t => match td P t with | some d => some d.size | none => none) fs xs ys else none
      | _ => none
    | none => none

theorem run_partV {ft : TypeId} {df : TD} (hft : td P ft = some df) {us : List Value} {off : Nat} (hle : off + df.size ≤ us.length) (ha : df.agg = false → df.size = 1) :
    (part ft us.toArray off).run P w = .ok (asV df.agg ((us.drop off).take df.size)) w := by
  simp only [part, Sem.run_bind, run_isAgg hft, Result.andThen_ok, Sem.run_ite]
  cases hd : df.agg with
  | true =>
    simp only [if_true, run_sizeOf hft, Result.andThen_ok, Sem.run_pure, asV]
    congr 2
    apply Array.ext'
    simp
  | false =>
    have h1 := ha hd
    have hlt : off < us.length := by omega
    have h0 : us[off]? = some us[off] := List.getElem?_eq_getElem hlt
    have h2 : (us.drop off).take 1 = [us[off]] := by
      rw [List.drop_eq_getElem_cons hlt]; rfl
    simp [asV, h1, h2, h0]

theorem eqT_spec : ∀ (n : Nat) {t : TypeId} {xs ys : List Value} {r : Bool} {d : TD}, eqT P n t xs ys = some r → td P t = some d → ∀ (N : Nat), n ≤ N →
    (Op.equalIn N t (asV d.agg xs) (asV d.agg ys)).run P w = .ok r w ∧ (d.agg = false → xs.length = 1 ∧ ys.length = 1)
  | 0, _, _, _, _, _, h, _, _, _ => by simp [eqT] at h
  | n + 1, t, xs, ys, r, d, h, ht, N, hN => by
    obtain ⟨M, rfl⟩ : ∃ M, N = M + 1 := ⟨N - 1, by omega⟩
    simp only [eqT, ht] at h
    cases hk : d.k with
    | int k0 =>
      rw [hk] at h
      have hu := td_int ht hk
      have ha : d.agg = false := by simp [TD.agg, hk]
      simp only at h
      split at h
      · rename_i k m l q
        split at h
        · rename_i hkl
          subst hkl
          cases h
          refine ⟨?_, fun _ => ⟨rfl, rfl⟩⟩
          simp [asV, ha, run_equalIn_int (P := P) w M t k k0 m q hu, beq_int]
        · cases h
      · cases h
    | bool =>
      rw [hk] at h
      have hu := td_bool ht hk
      have ha : d.agg = false := by simp [TD.agg, hk]
      simp only at h
      split at h
      · cases h
        refine ⟨?_, fun _ => ⟨rfl, rfl⟩⟩
        simp [asV, ha, run_equalIn_bool' (P := P) w M t _ _ hu]
      · cases h
    | str =>
      rw [hk] at h
      have hu := td_str ht hk
      have ha : d.agg = false := by simp [TD.agg, hk]
      simp only at h
      split at h
      · cases h
        refine ⟨?_, fun _ => ⟨rfl, rfl⟩⟩
        simp only [asV, ha, Bool.false_eq_true, if_false, List.headD_cons]
        rw [run_equalIn_string (P := P) w M t _ _ hu, beq_bytes]
      · cases h
    | st fs =>
      rw [hk] at h
      have ha : d.agg = true := by simp [TD.agg, hk]
      simp only at h
      split at h
      · rename_i hok
        refine ⟨?_, fun h => by rw [ha] at h; cases h⟩
        obtain ⟨D, i, z, hD, hi, hz, hkk, _⟩ := td_spec ht
        obtain ⟨gs, hgs, hfs⟩ := td_st ht hk
        have hok' : P.stoodInHeld t = false ∧ ∀ f ∈ gs.toList, f.name ≠ "_" := by
          unfold td at ht
          rw [hi, hgs] at ht
          simp only [hz, Option.some.injEq] at ht
          rw [← ht] at hok
          simp only [Bool.and_eq_true, List.all_eq_true, bne_iff_ne, Bool.not_eq_true'] at hok
          exact ⟨hok.1.1, fun f hf => hok.2 f hf⟩
        have hfo : P.fieldsOf t = gs := by simp [Program.fieldsOf, hgs]
        simp only [asV, ha, if_true]
        rw [run_equalIn_struct (P := P) w M t _ _ (by rw [hfo]; exact hgs) hok'.1, hfo]
        have hnm := hok'.2
        clear hgs hfo hok hok' ht hi hz hD hk
        subst hfs
        revert r
        generalize gs.toList = fl at hnm
        induction fl with
        | nil => intro r h; simp only [List.map_nil, eqFs, Option.some.injEq] at h; subst h; simp [Op.eqFields]
        | cons f fl ih =>
          intro r h
          simp only [List.map_cons, eqFs] at h
          split at h
          · rename_i n1 hn1
            split at hn1
            · rename_i df hdf
              cases hn1
              split at h
              · rename_i hle
                split at h
                · rename_i r1 q1 hr1 hq1
                  cases h
                  obtain ⟨e1, e2⟩ := eqT_spec n hr1 hdf M (by omega)
                  have hone : df.agg = false → df.size = 1 := fun h0 => by
                    have := (e2 h0).1
                    simp at this; omega
                  have ih' := ih (fun g hg => hnm g (by simp [hg])) _ hq1
                  have hn' := hnm f (by simp)
                  rw [Op.eqFields]
                  simp only [if_pos hn', Sem.run_bind, run_partV hdf hle.1 hone, run_partV hdf hle.2 hone, Result.andThen_ok, e1]
                  cases r1
                  · simp
                  · simpa using ih'
                · cases h
              · cases h
            · cases hn1
          · cases h
      · cases h
    | _ => rw [hk] at h; simp at h

def unDs : List D → Option (List Value)
  | [] => some []
  | .c (.v u) :: l => match unDs l with
    | some us => some (u :: us)
    | none => none
  | _ :: _ => none

theorem unDs_spec : ∀ {l : List D} {us vs : List Value} {L : Lens}, unDs l = some us → F2 (DR w I μ L) l vs → vs = us
  | [], us, vs, L, h, h2 => by simp [unDs] at h; subst h; cases h2; rfl
  | .c (.v u) :: l, us, vs, L, h, h2 => by
    simp only [unDs] at h
    split at h
    · rename_i us' hus
      cases h
      cases h2 with
      | cons h3 h4 =>
        have := unDs_spec hus h4
        cases h3
        rw [this]
    · cases h
  | .c (.s _) :: _, _, _, _, h, _ => by simp [unDs] at h
  | .h .. :: _, _, _, _, h, _ => by simp [unDs] at h
  | .p .. :: _, _, _, _, h, _ => by simp [unDs] at h
  | .e .. :: _, _, _, _, h, _ => by simp [unDs] at h

theorem go_eqSt (h : RelX x μ I s a w) {o : Oper} {op : BinOp} {t u : TypeId} {y z : Operand} (ho : o.op = .binOp op t y z u) (hop : op = .eql ∨ op = .neq) (hd : ∀ d, o.dst = some d → d < x.n) {cs ds : List D} (hy : evE s.env y = some (.x (.a cs))) (hz : evE s.env z = some (.x (.a ds)))
    {us vs : List Value} (hu : unDs cs = some us) (hv : unDs ds = some vs) {d : TD} (ht : td P t = some d) (ha : d.agg = true) (hok : d.eqok = true) {n : Nat} (hn : n ≤ 10000) {r : Bool} (hr : eqT P n t us vs = some r) {ob : Prop} :
    Goes P x o a w (s.app o.dst ⟨some (sc (.bool (if op = .eql then r else !r))), [], false, ob⟩) := by
  obtain ⟨us', e1, hr1⟩ := evE_spec h hy
  obtain ⟨vs', e2, hr2⟩ := evE_spec h hz
  have := unDs_spec hu hr1
  subst this
  have := unDs_spec hv hr2
  subst this
  obtain ⟨e3, _⟩ := eqT_spec (w := w) n hr ht 10000 hn
  simp only [asV, ha, if_true] at e3
  have hg : P.eqGuardType P.depth t = false := by
    obtain ⟨D, i, z, hD, hi, hz, hkk, _⟩ := td_spec ht
    unfold td at ht
    rw [hi, hD] at ht
    simp only [hz, Option.some.injEq] at ht
    rw [← ht] at hok
    cases n with
    | zero => simp [eqT] at hr
    | succ n =>
      simp only [eqT] at hr
      cases D with
      | struct fs =>
        simp only [Bool.and_eq_true, Bool.not_eq_true'] at hok
        exact hok.1.2
      | array m e =>
        exfalso
        have hk : d.k = .arr m e := by rw [hkk]; rfl
        have ht' : td P t = some d := by unfold td; rw [hi, hD]; simp only [hz, Option.some.injEq]; exact ht
        rw [ht'] at hr
        simp only [hk] at hr
        cases hr
      | _ => exfalso; simp [TD.agg, hkk, toTy] at ha
  have hrun' : (Op.equal t (.agg us'.toArray) (.agg vs'.toArray)).run P w = .ok r w := e3
  have hgg := run_eqGuard_agg (P := P) w op t y z us'.toArray vs'.toArray hg
  refine goes_val h hd (e := sc _) (v := .bool (if op = .eql then r else !r)) ?_ (.v _ rfl)
  rcases hop with rfl | rfl
  · simp only [execOp, ho, e1, e2, Sem.run_bind, hgg, Result.andThen_ok, binOp, hrun', Sem.run_pure, if_true]
  · simp only [execOp, ho, e1, e2, Sem.run_bind, hgg, Result.andThen_ok, binOp, hrun', Sem.run_pure]
    simp
end

end Go.Proofs.YtcgkhljolflenaaGreatW.V

/- A law's arguments, opened by their types: what reads as data of a type is a plain value in cells that nobody writes. No condition but each theorem's own. -/
import Derived.ChangeArms
import Derived.DataReads
import Derived.ChangeShapes
import Derived.Test.YtcgkhljolflenaaGreatVLw
import Derived.Test.YtcgkhljolflenaaGreatVCe
namespace Go.Proofs.YtcgkhljolflenaaGreatW.V
open Go Go.RowKit Go.ChangeShapes Go.WideShapes

def OpensC (P : Program) (t : TypeId) {α : Type} (d : Cd α) (G : α → Prop) : Prop :=
  ∀ (H : Type) (enc : TypeId × Value → H) (w : World) (base : Nat) (spare : Nat → Bool) (held : Bool) (fuel : Nat) (cs : List Value) (x : DataW H × List MemPlace),
    DataW.trod enc P w base spare held fuel t cs = some x → ∃ y, F2 (CR w (allI w)) (d.enc y) cs ∧ G y
def OpensCF (P : Program) (fs : List Field) (off total : Nat) {α : Type} (d : Cd α) (G : α → Prop) : Prop :=
  ∀ (H : Type) (enc : TypeId × Value → H) (w : World) (base : Nat) (spare : Nat → Bool) (held : Bool) (fuel : Nat) (cs : List Value), cs.length = total →
    (∀ f ∈ fs, ∃ x, DataW.trod enc P w base spare held fuel f.type ((cs.drop f.offset).take (P.cellsOf f.type)) = some x) → ∃ y, F2 (CR w (allI w)) (d.enc y) (cs.drop off) ∧ G y

theorem addr_add (a : Addr) (h : a.spot = none) (m : Nat) : a.add m = ⟨a.block, a.off + m, none⟩ := by
  obtain ⟨b, o, s⟩ := a
  cases h
  unfold Addr.add
  split
  · rename_i e; rw [e]; rfl
  · rfl

theorem CR.of_cells {w : World} {a : Addr} {k len cap : Nat} {rows : List (List C)} {css : List (List Value)} (hk0 : 0 < k) (hF : F2 (F2 (CR w (allI w))) rows css) (hl : rows.length = len) (hrk : ∀ x ∈ rows, x.length = k)
    (hcells : ∀ (i : Nat) c, css[i]? = some c → c.length = k ∧ ∀ r, r < k → w.cell? ((a.add (i * k)).add r) = c[r]?) (hcap : len ≤ cap) : CR w (allI w) (.s rows) (.slice (some a) len cap) := by
  cases rows with
  | nil => simp at hl; subst hl; exact .nil _ _
  | cons r0 rs =>
    have hcl := F2.length hF
    have h0 : ∃ c, css[0]? = some c := by
      cases css with
      | nil => simp at hcl
      | cons c _ => exact ⟨c, rfl⟩
    obtain ⟨c0, h0⟩ := h0
    obtain ⟨hc0, hr0⟩ := hcells 0 c0 h0
    have hsp : a.spot = none := by
      have h1 := hr0 0 hk0
      have h2 : c0[0]? = some c0[0] := List.getElem?_eq_getElem (by omega)
      rw [h2] at h1
      simp only [Nat.zero_mul, Addr.add, if_true] at h1
      unfold World.cell? at h1
      split at h1
      · split at h1
        · cases h1
        · rename_i hs; simpa using hs
      · cases h1
    have hck : ∀ c ∈ css, c.length = k := fun c hc => by
      obtain ⟨i, hi⟩ := List.getElem?_of_mem hc
      exact (hcells i c hi).1
    rw [← hl]
    obtain ⟨b, o, s⟩ := a
    simp only at hsp
    subst hsp
    have hfl : css.flatten.length = (r0 :: rs).flatten.length := (F2.length (F2.flatten hF)).symm
    refine .s (r0 :: rs) b o k cap css.flatten (by omega) hrk hfl (fun j u hu => ?_) fun j x u hx hu => ?_
    · have hjl : j < css.flatten.length := (List.getElem?_eq_some_iff.1 hu).1
      have hcf : css.flatten.length = css.length * k := flatten_length hck
      have hi : j / k < css.length := by
        rw [Nat.div_lt_iff_lt_mul hk0]; omega
      have hr : j % k < k := Nat.mod_lt _ hk0
      have hge : css[j / k]? = some css[j / k] := List.getElem?_eq_getElem hi
      have h1 := flatten_get hck hge (j % k) hr
      have e : j / k * k + j % k = j := by rw [Nat.mul_comm]; exact Nat.div_add_mod j k
      rw [e, hu] at h1
      have h2 := (hcells _ _ hge).2 (j % k) hr
      rw [addr_add ⟨b, o, none⟩ rfl, addr_add _ rfl, ← h1] at h2
      simp only at h2
      have h3 : w.cell? ⟨b, o + j, none⟩ = some u := by rw [← h2, Nat.add_assoc, e]
      refine ⟨h3, ?_⟩
      show b < w.heap.size
      unfold World.cell? at h3
      split at h3
      · rename_i hh; exact (Array.getElem?_eq_some_iff.1 hh).1
      · cases h3
    · obtain ⟨v, hv, hR⟩ := F2.get (F2.flatten hF) j x hx
      rw [hu] at hv; cases hv
      exact hR

section
variable {P : Program} {t e : TypeId} {α β : Type}
theorem op_int {k : IntKind} (ht : P.underlying t = some (.int k)) : OpensC P t (cInt k) (fun n => (Lit.int k n).wf = true) := by
  intro H enc w base spare held fuel cs x h
  obtain ⟨n, rfl, _, hw⟩ := DataW.trod_int ht h
  exact ⟨n, .cons (.v _ rfl) .nil, hw⟩
theorem op_u8 (ht : P.underlying t = some (.int .u8)) : OpensC P t cU8 (fun _ => True) := by
  intro H enc w base spare held fuel cs x h
  obtain ⟨n, rfl, _, hw⟩ := DataW.trod_int ht h
  have hn : 0 ≤ n ∧ n < 256 := by
    simp [Lit.wf, IntKind.min, IntKind.max, IntKind.bits, IntKind.signed] at hw
    omega
  refine ⟨UInt8.ofNat n.toNat, ?_, trivial⟩
  have : ((UInt8.ofNat n.toNat).toNat : Int) = n := by simp; omega
  simp only [cU8_enc, this]
  exact .cons (.v _ rfl) .nil
theorem op_bool (ht : P.underlying t = some .bool) : OpensC P t cBool (fun _ => True) := by
  intro H enc w base spare held fuel cs x h
  obtain ⟨n, rfl, _⟩ := DataW.trod_bool ht h
  exact ⟨n, .cons (.v _ rfl) .nil, trivial⟩
theorem op_str (ht : P.underlying t = some .string) : OpensC P t cStr (fun s => s.size ≤ maxLen) := by
  intro H enc w base spare held fuel cs x h
  obtain ⟨n, rfl, _, hw⟩ := DataW.trod_string ht h
  exact ⟨n, .cons (.v _ rfl) .nil, hw⟩
theorem op_list {d : Cd α} {G : α → Prop} (ht : P.underlying t = some (.slice e)) (hc : P.cellsOf e = d.n) (hn : 0 < d.n) (h : OpensC P e d G) : OpensC P t (cList d) (fun l => l.length ≤ maxLen ∧ ∀ x ∈ l, G x) := by
  intro H enc w base spare held fuel cs x hx
  rcases DataW.trod_slice ht hx with ⟨rfl, _⟩ | ⟨a, len, cap, elems, rest, n, _, rfl, _, _, hl, hm, hlen, hel, _⟩
  · exact ⟨[], .cons (.nil _ _) .nil, Nat.zero_le _, fun _ h => by cases h⟩
  · have ev : ∀ i : Fin len, ∃ p : α × List Value, w.cells? base (a.add (i.val * P.cellsOf e)) (P.cellsOf e) = some p.2 ∧ F2 (CR w (allI w)) (d.enc p.1) p.2 ∧ G p.1 := by
      intro i
      have h1 := hel i.val i.isLt
      rw [List.getElem?_eq_getElem (by omega)] at h1
      obtain ⟨c, hc1, hc2⟩ := Option.bind_eq_some_iff.1 h1
      obtain ⟨y, hk, hG⟩ := h H enc w base spare held n c _ hc2
      exact ⟨(y, c), hc1, hk, hG⟩
    refine ⟨List.ofFn fun i : Fin len => (ev i).choose.1, .cons (CR.of_cells (k := d.n) (css := List.ofFn fun i : Fin len => (ev i).choose.2) hn ?_ (by simp) (fun y hy => ?_) (fun i c hi => ?_) hl) .nil, by rw [List.length_ofFn]; unfold maxLen at hm ⊢; omega, ?_⟩
    · refine F2.of (by simp) fun j x y hxj hyj => ?_
      simp only [List.getElem?_map, List.getElem?_ofFn] at hxj hyj
      split at hxj
      · rename_i hj
        rw [dif_pos hj] at hyj
        cases hxj; cases hyj
        exact (ev ⟨j, hj⟩).choose_spec.2.1
      · cases hxj
    · obtain ⟨z, _, rfl⟩ := List.mem_map.1 hy
      exact d.len z
    · rw [List.getElem?_ofFn] at hi
      split at hi
      · rename_i hj
        cases hi
        obtain ⟨_, hcl, hat⟩ := World.cells?_some (ev ⟨i, hj⟩).choose_spec.1
        rw [← hc]
        exact ⟨hcl, fun r hr => hat r hr⟩
      · cases hi
    · intro y hy
      rw [List.mem_ofFn] at hy
      obtain ⟨i, rfl⟩ := hy
      exact (ev i).choose_spec.2.2
theorem opF_one {f : Field} {off total : Nat} {d : Cd α} {G : α → Prop} (ho : f.offset = off) (ht : off + P.cellsOf f.type = total) (h : OpensC P f.type d G) : OpensCF P [f] off total d G := by
  intro H enc w base spare held fuel cs hl hx
  obtain ⟨x, hx⟩ := hx f List.mem_cons_self
  rw [ho, List.take_of_length_le (by rw [List.length_drop]; omega)] at hx
  exact h H enc w base spare held fuel _ x hx
theorem opF_cons {f : Field} {fs : List Field} {off off1 total : Nat} {d : Cd α} {d1 : Cd β} {G : α → Prop} {G1 : β → Prop} (ho : f.offset = off) (ht : off + P.cellsOf f.type = off1) (h : OpensC P f.type d G) (h1 : OpensCF P fs off1 total d1 G1) : OpensCF P (f :: fs) off total (cPair d d1) (fun y => G y.1 ∧ G1 y.2) := by
  intro H enc w base spare held fuel cs hl hx
  obtain ⟨x, hx0⟩ := hx f List.mem_cons_self
  rw [ho] at hx0
  obtain ⟨y, hk, hG⟩ := h H enc w base spare held fuel _ x hx0
  obtain ⟨y1, hk1, hG1⟩ := h1 H enc w base spare held fuel cs hl (fun g hg => hx g (List.mem_cons_of_mem _ hg))
  refine ⟨(y, y1), ?_, hG, hG1⟩
  have := F2.append hk hk1
  rwa [← ht, ← List.drop_drop, List.take_append_drop] at this
theorem op_struct {fs : Array Field} {d : Cd α} {G : α → Prop} (ht : P.underlying t = some (.struct fs)) (h : OpensCF P fs.toList 0 (P.cellsOf t) d G) : OpensC P t d G := by
  intro H enc w base spare held fuel cs x hx
  obtain ⟨xs, n, _, _, hl, hxs, hf⟩ := DataW.trod_struct ht hx
  have := h H enc w base spare held n cs hl (fun f hm => by
    obtain ⟨i, hi, rfl⟩ := List.getElem_of_mem hm
    have h2 := hf i fs.toList[i] (by simp)
    simp at hi
    rw [List.getElem?_eq_getElem (by omega)] at h2
    exact ⟨_, h2⟩)
  simpa using this

theorem OpensC.mk0 {P : Program} {t : TypeId} {α : Type} {d : Cd α} {G : α → Prop} (h : OpensC P t d G) : OpensC P t d G := h

/-- As an argument. -/
theorem er_slice {W : World} {μ : Mu} {L : Lens} {d : Cd α} {l : List α} {b : Option Addr} {n c : Nat} (h : F2 (CR W (allI W)) ((cList d).enc l) [.slice b n c]) : ER W (allI W) μ L ((eList d).enc l) (.slice b n c) := by
  cases h with
  | cons h1 _ => exact h1
theorem er_struct {W : World} {μ : Mu} {L : Lens} {d : Cd α} {x : α} {cs : Array Value} (h : F2 (CR W (allI W)) (d.enc x) cs.toList) : ER W (allI W) μ L ((CE.st d).enc x) (.agg cs) :=
  ⟨cs.toList, by simp, F2.map (S := DR W (allI W) μ L) D.c id (fun _ _ h => h) h |> fun h => by simpa using h⟩
theorem er_str {W : World} {μ : Mu} {L : Lens} (x : ByteArray) : ER W (allI W) μ L (eStr.enc x) (.string x) := .v _ rfl
theorem er_bool {W : World} {μ : Mu} {L : Lens} (x : Bool) : ER W (allI W) μ L (eBool.enc x) (.bool x) := .v _ rfl
end

end Go.Proofs.YtcgkhljolflenaaGreatW.V

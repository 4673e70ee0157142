/- copy(v, ys), v a row of the call's own as long as ys: it is ys then; elements of any kind. No condition beyond the theorem's own. -/
import Derived.Laws.CopyRow
import Derived.Laws.IdiomCopy
import Derived.Test.YtcgfgodpiobcfaaWWords
import Derived.Test.YtcgfgodpiobcfaaWLast
namespace Go.Proofs.YtcgfgodpiobcfaaW.PrintWords
open Go.RowKit Go.Proofs.YtcgfgodpiobcfaaW.PrintLast
theorem run_copy_none_any {P : Program} (w : World) (dT sT ty elem : TypeId) (d a : Option Addr) (dLen dCap sLen sCap : Nat) (hu : P.underlying dT = some (.slice elem)) (hs : ((P.info? elem).map (·.size)).isSome = true) (hn : Nat.min sLen dLen = 0) :
    (Builtin.copy_ #[dT, sT] ty #[.slice d dLen dCap, .slice a sLen sCap]).run P w = .ok (goInt 0) w := by
  cases hq : P.info? elem with
  | none => simp [hq] at hs
  | some i =>
    have hl : ∀ (x : Addr), (loadCells x 0).run P w = .ok #[] w := fun x => by simpa using run_loadCells_list (P := P) w x [] (by simp)
    cases d <;> cases a <;> simp [Builtin.copy_, run_underlying hu, Builtin.lenOf, Builtin.firstCells, sizeOf, typeInfo, hq, hn, storeCells, hl]
theorem run_copy_row_any {P : Program} (w : World) (dT sT ty elem : TypeId) (g dLen dCap : Nat) (a : Addr) (sLen sCap size : Nat) (cur : Array Value) (t : TypeId) (cs : List Value)
    (hu : P.underlying dT = some (.slice elem)) (hs : (P.info? elem).map (·.size) = some size)
    (hg : w.heap[g]? = some (.cells cur t (0, 0))) (hn : cs.length = Nat.min sLen dLen * size)
    (hsrc : ∀ j v, cs[j]? = some v → w.cell? (a.add j) = some v) (hfit : cs.length ≤ cur.size) (h1 : ∀ v ∈ cs, v.oneCell' = true) :
    (Builtin.copy_ #[dT, sT] ty #[.slice (some ⟨g, 0, none⟩) dLen dCap, .slice (some a) sLen sCap]).run P w =
      .ok (goInt (Nat.min sLen dLen : Nat)) (w.setRow g (cs ++ cur.toList.drop cs.length).toArray) := by
  have hl := run_loadCells_list (P := P) w a cs hsrc
  have hst := run_storeCells_at P g 0 t cs 0 cur w hg (by simpa using hfit) h1
  cases hq : P.info? elem with
  | none => simp [hq] at hs
  | some i =>
    have hi : i.size = size := by simpa [hq] using hs
    rw [hn] at hl
    simp only [Nat.zero_add, List.take_zero, List.nil_append, Nat.add_zero] at hst
    simp [Builtin.copy_, run_underlying hu, Builtin.lenOf, Builtin.firstCells, sizeOf, typeInfo, hq, hi, hl, hst]
/-- A kind without inner rows: what is read may stand as made. -/
def Flat {α : Type} (d : Kd α) : Prop := ∀ (w w1 : World) (base : Nat) (ok : Nat → Prop) (x : α) (cs : List Value), d.K w x cs → d.M w1 base ok x cs
theorem flat_int (k : IntKind) : Flat (Kd.int k) := fun _ _ _ _ _ _ h => h
theorem flat_bool : Flat Kd.bool := fun _ _ _ _ _ _ h => h
theorem flat_string : Flat Kd.string := fun _ _ _ _ _ _ h => h
theorem flat_pair {α β : Type} {a : Kd α} {b : Kd β} (ha : Flat a) (hb : Flat b) : Flat (Kd.pair a b) := by
  rintro w w1 base ok x cs ⟨c0, c1, h, h0, h1⟩
  exact ⟨c0, c1, h, ha w w1 base ok _ _ h0, hb w w1 base ok _ _ h1⟩
theorem flat_iso {α β : Type} {a : Kd α} (ha : Flat a) (f : β → α) : Flat (Kd.iso a f) := fun w w1 base ok x cs h => ha w w1 base ok (f x) cs h
namespace Kd
section
variable {P : Program} {ops : Array Oper} {rest : List Oper} {o : Oper} {a : Act} {Q : Exit → Act → World → Prop} {α : Type}
theorem R_copy_all (d : Kd α) {Rr : α → List Value → Prop} {w0 W : World} (base : Nat) (hgd : o.guard = none) (s x : Operand) (t e : TypeId)
    (ho : o.op = .call { callee := .builtin .copy, args := #[s, x], argTypes := #[t, t] })
    (ht : P.underlying t = some (.slice e)) (hinfo : (P.info? e).map (·.size) = some d.sz) (hs0 : 0 < d.sz)
    (v : Value) (xs ys : List α) (A : Option Addr) (m c : Nat) (ok okp : Nat → Prop) (hs : a.eval s = v) (hx : a.eval x = .slice A m c) (hlen : xs.length = m)
    (HO : d.R e W base ok v xs) (HR : ReadsRow Rr d.sz W A m ys) (hKM : ∀ x cs, Rr x cs → d.M W base okp x cs) (hokp : ∀ k, okp k → ok k ∧ some k ≠ v.ownBlock)
    (HB : Below base w0 W) (hbase : base ≤ W.heap.size)
    (h : ∀ w1, d.R e w1 base ok v ys → Below base w0 w1 → W.grownBy w1 v.ownBlock → wpList P ops Q rest (a.put o.dst (goInt ((m : Nat) : Int))) w1) :
    wpList P ops Q (o :: rest) a W := by
  have hm : ys.length = m := HR.1
  obtain ⟨hok, inner, hown, hr⟩ := HO
  have fin : ∀ w1, (Builtin.copy_ #[t, t] o.type #[v, .slice A m c]).run P W = .ok (goInt ((m : Nat) : Int)) w1 → d.R e w1 base ok v ys → W.grownBy w1 v.ownBlock → wpList P ops Q (o :: rest) a W := by
    intro w1 hr hrow hg
    refine wpList_plain hgd fun K hK => ?_
    unfold Oper.wp execOp
    simp only [ho, resolve, invoke, builtin, Sem.run_bind, Sem.run_pure, Result.andThen_ok, List.map_toArray, List.map_cons, List.map_nil, hs, hx, hr]
    exact hK _ _ (h w1 hrow (HB.grown hg hbase (own_base hown)) hg)
  rcases Nat.eq_zero_or_pos m with h0 | hp
  · subst h0
    obtain ⟨A', c', hv⟩ := own_slice hown
    have hy0 : ys = [] := List.eq_nil_of_length_eq_zero hm
    have hx0 : xs = [] := List.eq_nil_of_length_eq_zero hlen
    subst hy0
    subst hx0
    refine fin W ?_ ⟨hok, inner, hown, hr⟩ (World.grownBy.refl W _)
    rw [hv]
    exact run_copy_none_any W t t o.type e A' A _ c' 0 c ht (by rw [hinfo]; rfl) (by simp)
  · obtain ⟨ad, hA, _⟩ := HR.2.2 hp
    subst hA
    obtain ⟨news, hnr, hnc⟩ := ReadsRow.inner_ HR
    have hnM : Reps (d.M W base okp) d.sz ys news := hnr.imp_ (fun p c hp => hKM p c hp)
    have hone : ∀ u ∈ news, u.oneCell' = true := by
      intro u hu
      obtain ⟨q, hq, rfl⟩ := List.mem_iff_getElem.1 hu
      have hql : q / d.sz < ys.length := by
        rw [Nat.div_lt_iff_lt_mul hs0]
        rw [← hnM.1]
        exact hq
      have hc := hnM.2 (q / d.sz) _ (List.getElem?_eq_getElem hql)
      refine d.K_one (d.K_of_M hc) _ ?_
      rw [List.mem_iff_getElem?]
      refine ⟨q % d.sz, ?_⟩
      rw [List.getElem?_take, if_pos (Nat.mod_lt _ hs0), List.getElem?_drop, Nat.mul_comm, Nat.div_add_mod, List.getElem?_eq_getElem hq]
    rcases hown.2 with ⟨_, hx0⟩ | ⟨g, cap, cur, hv, hb, hh, hnc1, hcm, hcs, htake⟩
    · omega
    have hnl : news.length = m * d.sz := by rw [hnM.1, hm]
    have hfit : news.length ≤ cur.size := by rw [hnl, hcs]; exact Nat.mul_le_mul_right _ (by omega)
    have hrun := run_copy_row_any (P := P) W t t o.type e g xs.length cap ad m c d.sz cur e news ht hinfo hh (by rw [hnl, hlen]; simp) hnc hfit hone
    have hmin : (Nat.min m xs.length : Nat) = m := by rw [hlen]; simp
    rw [hmin] at hrun
    subst hv
    have hother : ∀ k, k ≠ g → (W.setRow g (news ++ cur.toList.drop news.length).toArray).heap[k]? = W.heap[k]? := fun k hk => setRow_other W g k _ hk
    refine fin _ hrun ⟨hok, news, ⟨by rw [hm]; exact hnl, .inr ⟨g, cap, _, by rw [hm, ← hlen], hb, setRow_heap W g cur _ e _ hh, by omega, hcm, ?_, ?_⟩⟩, ?_⟩ ⟨rfl, rfl, rfl, by simp [World.setRow], fun k _ hk => hother k (fun he => hk (by rw [he]; rfl))⟩
    · simp
      omega
    · rw [hm]
      show ((news ++ cur.toList.drop news.length).toArray.toList).take _ = _
      rw [← hnl]
      simp
    · refine hnM.imp_ (fun p c hp => ?_)
      have h1 := d.M_move (w1 := W.setRow g (news ++ cur.toList.drop news.length).toArray) (fun k hk => hother k (fun he => (hokp k hk.1).2 (by rw [he]; rfl))) (d.M_bound hp)
      exact d.M_mono (fun k hk => ⟨(hokp k hk.1).1, (hokp k hk.1).2⟩) h1
end
end Kd
section
variable {P : Program} {ops : Array Oper} {Q : Exit → Act → World → Prop}
/-- A call of a function value (a method bound to a value), in a region that draws its order. -/
theorem goesF_ {oi : Oper} {N : Option Tmp} {a : Act} {w : World} {K : Act → World → Prop} {f : FuncId} {fn : Func} {x : Operand} {first : Array Value} {as : Array Operand} {ts : Array TypeId} (hf : P.funcs[f]? = some fn) (hname : (fn.name == "runtime.NumGoroutine") = false) (hb : fn.body.isSome = true) (args : Array Value)
    (hw : Region.wanted oi (yielded ops a.tmps) = true) (hN : oi.dst = N) (hop : oi.op = .call { callee := .value x, args := as, argTypes := ts }) (hx : a.eval x = .func (.func f) first #[]) (hargs : first ++ as.map a.eval = args)
    (h : Calls P f args w fun e w' => ∃ v, e = .returned v ∧ K (a.put N v) w') : if Region.wanted oi (yielded ops a.tmps) = true then Oper.wp P oi a w K Q else K (a.put N undef) w := by
  refine call_ f args hw hN ?_ h
  have he := enters_ hf hname hb args w
  unfold execOp
  simp [hop, resolve, Deferred.ofValue, invoke, hx, hargs, he]
end
end Go.Proofs.YtcgfgodpiobcfaaW.PrintWords

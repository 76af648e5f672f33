/- A region whose order is open, by the flow of its data: each operation once, whatever the order. -/
import Derived.Test.YtpjnphonanbopaaFlM
namespace Go.FL
open Go Go.RowKit
/-- one operation, with its value and what holds of it behind it; what is owned stays -/
def JE (P : Program) (TT : TyTab) (D n : Nat) (ops : Array Oper) (Q : Exit → Act → World → Prop) (i d : Nat) (fr : Fr) (L : Hl) (s : World) (R : Value → World → Prop) : Prop :=
  TabOK P TT → ∀ a, FrRel n a fr → OKL D L s → wpOp P ops Q i (fun a' w' => ∃ v s', a' = a.put (some d) v ∧ w' = fill L s' ∧ OKL D L s' ∧ Le D s s' ∧ R v s') a (fill L s)
section
variable {P : Program} {TT : TyTab} {D n : Nat} {ops : Array Oper} {Q' : Exit → Act → World → Prop} {fr : Fr} {L : Hl} {s s' : World} {d ty : Nat} {op : Op} {pos : String} {af : Array Edge} {v : Value} {i : Nat} {R : Value → World → Prop}
theorem JE_ev (hi : ops[i]? = some ⟨some d, op, ty, pos, af, none⟩) (h : Ev P TT D fr op ty L s (.value v) L s') (hle : Le D s s') (hR : R v s') : JE P TT D n ops Q' i d fr L s R := fun ht a hf ho => by
  obtain ⟨h1, h2⟩ := h ht ho (some d) pos af none a.eval (fun x v hx => hf.ev hx)
  simp only [wpOp, hi, Region.wanted, if_true]
  refine .inl ?_
  simp only [Oper.wp, h1, Oper.upon]
  exact ⟨v, s', rfl, rfl, h2, hle, hR⟩
theorem JE_q (hi : ops[i]? = some ⟨some d, op, ty, pos, af, none⟩) (h : QE P TT D fr op ty L s v) (hR : R v s) : JE P TT D n ops Q' i d fr L s R :=
  JE_ev hi (fun ht ho dst pos af g ρ hρ => ⟨h ht dst pos af g ρ hρ L s ho (Le.refl _) (fun _ hx => hx), ho⟩) (Le.refl _) hR
theorem JE_call {f : FuncId} {x : Operand} {xs : List Operand} {first captured vs : List Value} {ts : Array TypeId} {R0 : Value → Hl → World → Prop} (hi : ops[i]? = some ⟨some d, .call { callee := .value x, args := xs.toArray, argTypes := ts }, ty, pos, af, none⟩)
    (hx : lk fr x = some (.func (.func f) first.toArray captured.toArray)) (hv : lks fr xs = some vs) (h : AC P D f (first ++ vs ++ captured) L s R0)
    (k : ∀ v L' s', Le D s s' → R0 v L' s' → L' = L ∧ R v s') : JE P TT D n ops Q' i d fr L s R := fun hT a hf ho => by
  obtain ⟨⟨fn, h1, h2, h3⟩, hc⟩ := h
  have hρ : ∀ x v, lk fr x = some v → a.eval x = v := fun x v hx => hf.ev hx
  simp only [wpOp, hi, Region.wanted, if_true]
  refine .inl ?_
  have hrun : (execOp a.eval ⟨some d, .call { callee := .value x, args := xs.toArray, argTypes := ts }, ty, pos, af, none⟩).run P (fill L s) = .ok (.enter f (first ++ vs ++ captured).toArray) (fill L s) := by
    have h2' : ¬ fn.name = "runtime.NumGoroutine" := by simpa using h2
    have h3' : ¬ fn.body = none := by intro e; simp [e] at h3
    simp [execOp, resolve, Deferred.ofValue, invoke, callFunc, hρ x _ hx, lks_map hρ hv, h1, h2', h3']
  simp only [Oper.wp, hrun, Oper.upon]
  refine (hc ho).mono ?_
  rintro e w' ⟨v, L', s', rfl, rfl, h4, h5, h6⟩
  obtain ⟨rfl, k2⟩ := k v L' s' h5 h6
  exact ⟨v, s', rfl, rfl, h4, h5, k2⟩
theorem JE_bs {t e len : Nat} {ti te : TI} {ps : List (Nat × Operand)} (hi : ops[i]? = some ⟨some d, .buildSlice t len ps.toArray, ty, pos, af, none⟩) (vals : List (Nat × Value)) (vs : List Value) (ht : tlook TT t = some ti) (hk : ti.kind = .sl e) (he : tlook TT e = some te) (hv : lkp fr ps = some vals) (hsz : Nat.ble (len * te.size) 16777216 = true) (hpos : Nat.blt 0 len = true) (hp : vals.all (fun x => Nat.blt x.1 len) = true)
    (hb : bld (rowPl te.size 0 len) (List.replicate len te.zeros).flatten vals = some vs) (k : ∀ β s', Le D s s' → CellsAt s' β 0 vs → R (.slice (some ⟨β, 0, none⟩) len len) s') : JE P TT D n ops Q' i d fr L s R := fun hT a hr ho => by
  obtain ⟨h1, h2, h3⟩ := alloc_fill ho (cb vs e)
  obtain ⟨d1, d2, d3⟩ := drop_own (A := [(s.heap.size, cb vs e)]) (B := L) h2
  refine JE_ev (s' := fill [(s.heap.size, cb vs e)] (s.alloc (dum D))) hi (fun hT _ dst pos af g ρ hρ => ⟨?_, d2⟩) (h3.trans d3) (k _ _ (h3.trans d3) (cells_drop h2)) hT a hr ho
  rw [← d1]
  exact (Ev_bs vals vs ht hk he hv hsz hpos hp hb ho hT ho dst pos af g ρ hρ).1
end
/- the checks of a region's shape -/
def edgeB (l : List Oper) (i j : Nat) : Bool := match l[i]? with
  | some o => o.after.any fun e => Region.binds .any e && e.on == j
  | none => false
def dstB (l : List Oper) (ds : List Nat) (m : Nat) : Bool := (List.range m).all fun i => (match l[i]? with | some o => o.dst == ds[i]? && o.guard.isNone | none => false)
def topoB (l : List Oper) : Bool := (List.range l.length).all fun i => (match l[i]? with | some o => o.after.all fun e => !Region.binds .any e || decide (e.on < i) | none => true)
def coverB (l : List Oper) (m : Nat) : Bool := (List.range m).all fun j => (List.range (m + 1)).any fun i => decide (j < i) && edgeB l i j
def depB (l : List Oper) (dp : List (List Nat)) (m : Nat) : Bool := (List.range m).all fun i => (dp.getD i []).all fun j => decide (j < m) && edgeB l i j
def freshB (fr : Fr) (ds : List Nat) (n : Nat) : Bool := ds.all fun d => (flook fr d).isNone && Nat.blt d n
/-- facts of the values that an operation looks at, one by one -/
def Obl (Φ : Nat → Value → World → Prop) (ds : List Nat) (s : World) (K : Fr → Prop) : List Nat → Fr → Prop
  | [], fr => K fr
  | j :: r, fr => ∀ u, Φ j u s → Obl Φ ds s K r ((ds.getD j 0, u) :: fr)
/-- what holds of an operation's value: it is this one; or a new row with these cells -/
inductive Fct where
  | eq (v : Value)
  | row (len : Nat) (vs : List Value)
def Fct.holds : Fct → Value → World → Prop
  | .eq u, v, _ => v = u
  | .row len vs, v, s => ∃ b, v = .slice (some ⟨b, 0, none⟩) len len ∧ CellsAt s b 0 vs
theorem Fct.le {D : Nat} (fs : List Fct) (i : Nat) (v : Value) (s s' : World) (h : (fs.getD i (.eq undef)).holds v s) (hl : Le D s s') : (fs.getD i (.eq undef)).holds v s' := by
  generalize fs.getD i (.eq undef) = f at h ⊢
  cases f with
  | eq u => exact h
  | row len vs => obtain ⟨b, h1, h2⟩ := h; exact ⟨b, h1, h2.le hl⟩
def AllLt (p : Nat → Prop) : Nat → Prop
  | 0 => True
  | m + 1 => AllLt p m ∧ p m
theorem AllLt.get {p : Nat → Prop} {m : Nat} (h : AllLt p m) : ∀ i, i < m → p i := by
  induction m with
  | zero => intro i hi; omega
  | succ m ih =>
    intro i hi
    rcases Nat.lt_succ_iff_lt_or_eq.1 hi with h1 | rfl
    · exact ih h.1 i h1
    · exact h.2
theorem lt_z {p : Nat → Prop} : ∀ i, i < 0 → p i := fun i h => by omega
theorem lt_s {p : Nat → Prop} {m : Nat} (h : ∀ i, i < m → p i) (k : p m) : ∀ i, i < m + 1 → p i := fun i hi => by
  rcases Nat.lt_succ_iff_lt_or_eq.1 hi with h1 | rfl
  · exact h i h1
  · exact k
section
variable {P : Program} {TT : TyTab} {D n : Nat} {Q : APost} {fr : Fr} {L : Hl} {s : World}
theorem FrRel.more {a : Act} (hr : FrRel n a fr) {d : Nat} {u : Value} (h1 : d < n) (h2 : a.tmps[d]? = some u) : FrRel n a ((d, u) :: fr) := by
  refine ⟨hr.size, hr.defers, fun t ht v hv => ?_, fun t v hv => ?_⟩
  · rw [flook_cons] at hv
    split at hv
    · rename_i he; subst he; simp at hv; subst hv; exact h2
    · exact hr.slot t ht v hv
  · rw [flook_cons] at hv
    split at hv
    · rename_i he; subst he; exact h1
    · exact hr.top t v hv
theorem Obl.apply {Φ : Nat → Value → World → Prop} {ds : List Nat} {K : Fr → Prop} {a : Act} {js : List Nat} (hr : FrRel n a fr) (h : Obl Φ ds s K js fr) (hj : ∀ j ∈ js, ds.getD j 0 < n ∧ ∃ v, a.tmps[ds.getD j 0]? = some v ∧ Φ j v s) : ∃ fr', FrRel n a fr' ∧ K fr' := by
  induction js generalizing fr with
  | nil => exact ⟨fr, hr, h⟩
  | cons j r ih =>
    obtain ⟨h1, v, h2, h3⟩ := hj j (List.mem_cons_self ..)
    exact ih (hr.more h1 h2) (h v h3) fun x hx => hj x (List.mem_cons_of_mem _ hx)
theorem edge_spec {l : List Oper} {i j : Nat} (h : edgeB l i j = true) : ∃ o, l[i]? = some o ∧ ∃ e ∈ o.after, Region.binds .any e = true ∧ e.on = j := by
  unfold edgeB at h
  split at h
  · rename_i o ho
    rw [Array.any_eq_true] at h
    obtain ⟨k, hk, h1⟩ := h
    simp only [Bool.and_eq_true, beq_iff_eq] at h1
    exact ⟨o, ho, o.after[k], Array.getElem_mem hk, h1.1, h1.2⟩
  · cases h
/-- the region, operation by operation: m of them in whatever order, then the last one -/
theorem JC_flow {id : Nat} {l : List Oper} (hm : P.follows .mixedOrders = true) (m : Nat) (hN : l.length = m + 1) (ds : List Nat) (dp : List (List Nat)) (h1 : dstB l ds m = true) (h2 : topoB l = true) (h3 : coverB l m = true) (h4 : depB l dp m = true) (h5 : freshB fr ds n = true) (h6 : ds.Nodup) (h7 : ds.length = m)
    (Φ : Nat → Value → World → Prop) (mono : ∀ i v s s', Φ i v s → Le D s s' → Φ i v s')
    (obl0 : AllLt (fun i => ∀ s', Le D s s' → Obl Φ ds s' (fun fr' => JE P TT D n l.toArray (noPan (conc D n Q)) i (ds.getD i 0) fr' L s' (Φ i)) (dp.getD i []) fr) m)
    (lastd : List Nat) (h8 : lastd.all (fun j => decide (j < m)) = true) (last : ∀ s', Le D s s' → Obl Φ ds s' (fun fr' => JA P TT D n l.toArray Q [] s' 1 ((Array.replicate m true).push false) fr' L s') lastd fr) :
    JC P TT D n Q (.region id l.toArray true) fr L s := fun ht a0 hr0 ho0 => by
  have obl := obl0.get
  have key : ∀ (N : Nat) (todo : List Nat) (listed : Array Bool) (a : Act) (s' : World), todo.length = N → todo.Nodup → (∀ i, i ∈ todo ↔ i < m ∧ listed.getD i true = false) → listed.size = m + 1 → listed.getD m true = false →
      (∀ i o, l[i]? = some o → i < m → listed.getD i true = true → ∀ e ∈ o.after, Region.binds .any e = true → listed.getD e.on false = true) →
      FrRel n a fr → OKL D L s' → Le D s s' → (∀ i, i < m → listed.getD i true = true → ∃ v, a.tmps[ds.getD i 0]? = some v ∧ Φ i v s') → wpAny P .any l.toArray (noPan (conc D n Q)) (N + 1) listed a (fill L s') := by
    have hdlt : ∀ i, i < m → ds.getD i 0 < n ∧ flook fr (ds.getD i 0) = none := fun i hi => by
      have hmem : ds.getD i 0 ∈ ds := by simp [List.getD, show i < ds.length by omega]
      have := List.all_eq_true.1 h5 _ hmem
      simp only [Bool.and_eq_true, Option.isNone_iff_eq_none] at this
      exact ⟨Nat.le_of_ble_eq_true this.2, this.1⟩
    intro N
    induction N with
    | zero =>
      intro todo listed a s' hlen _ hmem hsz hlast hcl hfr ho hle hfact
      have hnil : todo = [] := List.eq_nil_of_length_eq_zero hlen
      subst hnil
      have hall : ∀ i, i < m → listed.getD i true = true := fun i hi => by
        cases hb : listed.getD i true with
        | true => rfl
        | false => exact absurd ((hmem i).2 ⟨hi, hb⟩) (by simp)
      have hl : listed = (Array.replicate m true).push false := by
        apply Array.ext
        · simp [hsz]
        · intro i hi hi'
          rw [Array.getElem_push]
          have hg : listed.getD i true = listed[i] := by simp [hi]
          split
          · rename_i hlt
            simp at hlt
            rw [Array.getElem_replicate, ← hg, hall i hlt]
          · rename_i hge
            simp at hge
            have : i = m := by omega
            subst this
            rw [← hg, hlast]
      subst hl
      obtain ⟨fr', hf', hJ⟩ := (last s' hle).apply hfr (a := a) (fun j hj => by
        have hj' : j < m := by simpa using List.all_eq_true.1 h8 j hj
        exact ⟨(hdlt j hj').1, hfact j hj' (hall j hj')⟩)
      exact wpAny_of_held _ _ _ _ (hJ ht a hf' ho (Le.refl _) (fun x hx => by cases hx))
    | succ N ih =>
      intro todo listed a s' hlen hnd hmem hsz hlast hcl hfr ho hle hfact
      refine ⟨fun hready => ?_, fun i hi => ?_⟩
      · -- the least one that is not listed is ready
        exfalso
        have hex : ∃ i, i < m ∧ listed.getD i true = false := by
          cases todo with
          | nil => simp at hlen
          | cons x r => exact ⟨x, (hmem x).1 (List.mem_cons_self ..)⟩
        have hleast : ∃ i, (i < m ∧ listed.getD i true = false) ∧ ∀ j, j < i → ¬ (j < m ∧ listed.getD j true = false) := by
          obtain ⟨i, hi⟩ := hex
          induction i using Nat.strongRecOn with
          | ind i ihi =>
            by_cases hx : ∃ j, j < i ∧ (j < m ∧ listed.getD j true = false)
            · obtain ⟨j, hj1, hj2⟩ := hx
              exact ihi j hj1 hj2
            · exact ⟨i, hi, fun j hj hj2 => hx ⟨j, hj, hj2⟩⟩
        obtain ⟨i, ⟨hi1, hi2⟩, hi3⟩ := hleast
        have hlt : i < l.length := by omega
        have hin : i ∈ Region.ready .any l.toArray listed := by
          rw [mem_ready]
          refine ⟨hi2, l[i], by simp [hlt], fun e he hb => ?_⟩
          have ht2 := List.all_eq_true.1 h2 i (List.mem_range.2 hlt)
          simp only [List.getElem?_eq_getElem hlt] at ht2
          rw [Array.all_eq_true_iff_forall_mem] at ht2
          have := ht2 e he
          simp only [hb, Bool.not_true, Bool.false_or, decide_eq_true_eq] at this
          have hn := hi3 e.on this
          have hm1 : e.on < m := by omega
          have h8 : listed.getD e.on true = true := by
            cases hc : listed.getD e.on true with
            | true => rfl
            | false => exact absurd ⟨hm1, hc⟩ hn
          have h9 : e.on < listed.size := by omega
          simp only [Array.getD, h9, dif_pos] at h8 ⊢
          exact h8
        rw [hready] at hin
        cases hin
      · have hi' := hi
        rw [mem_ready] at hi
        obtain ⟨hu, o, ho1, hall⟩ := hi
        have hol : l[i]? = some o := by simpa using ho1
        have hilen : i < l.length := (List.getElem?_eq_some_iff.1 hol).1
        have him : i ≠ m := by
          intro e
          subst e
          -- the greatest one that is not listed is ready's own forerunner
          have hmax : ∀ k, ∀ j, j < i → i - j ≤ k → listed.getD j true = true := by
            intro k
            induction k with
            | zero => intro j hj hk; omega
            | succ k ihk =>
              intro j hj hk
              have hcv := List.all_eq_true.1 h3 j (List.mem_range.2 hj)
              rw [List.any_eq_true] at hcv
              obtain ⟨i2, hi2, hc⟩ := hcv
              simp only [Bool.and_eq_true, decide_eq_true_eq] at hc
              obtain ⟨o2, ho2, e, he, hb, hon⟩ := edge_spec hc.2
              have hi2' := List.mem_range.1 hi2
              have hgot : listed.getD e.on false = true := by
                by_cases hlastone : i2 = i
                · subst hlastone
                  rw [hol] at ho2; injection ho2 with ho2; subst ho2
                  exact hall e he hb
                · exact hcl i2 o2 ho2 (by omega) (ihk i2 (by omega) (by omega)) e he hb
              rw [hon] at hgot
              have h9 : j < listed.size := by omega
              simp only [Array.getD, h9, dif_pos] at hgot ⊢
              exact hgot
          cases todo with
          | nil => simp at hlen
          | cons x r =>
            have hx := (hmem x).1 (List.mem_cons_self ..)
            have := hmax i x hx.1 (by omega)
            rw [hx.2] at this; cases this
        have hilt : i < m := by omega
        have hdeps : ∀ j ∈ dp.getD i [], j < m ∧ listed.getD j true = true := fun j hj => by
          have hd := List.all_eq_true.1 h4 i (List.mem_range.2 hilt)
          have hd2 := List.all_eq_true.1 hd j hj
          simp only [Bool.and_eq_true, decide_eq_true_eq] at hd2
          obtain ⟨o2, ho2, e, he, hb, hon⟩ := edge_spec hd2.2
          rw [hol] at ho2; injection ho2 with ho2; subst ho2
          have hgot := hall e he hb
          rw [hon] at hgot
          have h9 : j < listed.size := by omega
          simp only [Array.getD, h9, dif_pos] at hgot ⊢
          exact ⟨hd2.1, hgot⟩
        obtain ⟨fr', hf', hJ⟩ := (obl i hilt s' hle).apply hfr (a := a) (fun j hj => ⟨(hdlt j (hdeps j hj).1).1, hfact j (hdeps j hj).1 (hdeps j hj).2⟩)
        refine wpOp_mono ?_ (hJ ht a hf' ho)
        rintro a' w' ⟨v, s2, rfl, rfl, ho2, hle2, hΦ⟩
        have hdi := hdlt i hilt
        have hsz2 : a.tmps.size = n := hfr.size
        refine ih (todo.erase i) _ _ s2 (by rw [List.length_erase_of_mem ((hmem i).2 ⟨hilt, hu⟩)]; omega) (hnd.erase i) (fun j => ?_) (by simpa using hsz) ?_ ?_ ?_ ho2 (hle.trans hle2) ?_
        · rw [hnd.mem_erase_iff, hmem j]
          by_cases hj : j = i
          · subst hj; simp [show j < listed.size by omega]
          · rw [getD_set_ne true (fun e => hj e.symm)]; simp [hj]
        · rw [getD_set_ne true him]; exact hlast
        · intro j oj hoj hjm hlj e he hb
          by_cases hj : j = i
          · subst hj
            rw [hol] at hoj; injection hoj with hoj; subst hoj
            exact getD_set_true (hall e he hb)
          · rw [getD_set_ne true (fun e => hj e.symm)] at hlj
            exact getD_set_true (hcl j oj hoj hjm hlj e he hb)
        · refine ⟨by simp [Act.put, hsz2], by simp [Act.put, hfr.defers], fun t ht2 u hu2 => ?_, hfr.top⟩
          have hne : ds.getD i 0 ≠ t := by
            intro e; rw [e] at hdi; rw [hdi.2] at hu2; cases hu2
          simp only [Act.put, Array.getElem?_setIfInBounds_ne hne]
          exact hfr.slot t ht2 u hu2
        · intro j hjm hlj
          by_cases hj : j = i
          · subst hj
            refine ⟨v, ?_, hΦ⟩
            have hd1 := hdi.1
            generalize ds.getD j 0 = dd at hd1 ⊢
            simp [Act.put, hsz2, hd1]
          · rw [getD_set_ne true (fun e => hj e.symm)] at hlj
            obtain ⟨u, k1, k2⟩ := hfact j hjm hlj
            have hne : ds.getD i 0 ≠ ds.getD j 0 := by
              intro e
              simp only [List.getD, List.getElem?_eq_getElem (show i < ds.length by omega), List.getElem?_eq_getElem (show j < ds.length by omega), Option.getD_some] at e
              exact hj ((List.getElem_inj h6).1 e).symm
            exact ⟨u, by simp only [Act.put, Array.getElem?_setIfInBounds_ne hne]; exact k1, mono _ _ _ _ k2 hle2⟩
  have hstart := key m (List.range m) (Array.replicate (m + 1) false) a0 s.drew (by simp) List.nodup_range (fun i => ⟨fun h => ⟨List.mem_range.1 h, by have := List.mem_range.1 h; simp [show i < m + 1 by omega]⟩, fun h => List.mem_range.2 h.1⟩) (by simp) (by simp) (fun i o _ him hli => by simp [show i < m + 1 by omega] at hli) hr0 ho0.drew (Le.drew s) (fun i him hli => by simp [show i < m + 1 by omega] at hli)
  refine wp_mono (wp_region_any (Q := noPan (conc D n Q)) hm ?_) (fun e a w hq => by cases e <;> first | exact hq | exact hq.elim)
  rw [← drew_fill] at hstart
  simpa [hN] using hstart
end
end Go.FL

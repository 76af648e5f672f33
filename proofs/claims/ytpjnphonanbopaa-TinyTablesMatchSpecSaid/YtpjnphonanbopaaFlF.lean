/- Regions whose order is open: quiet operations are taken first; the others as they come up. -/
import Derived.Test.YtpjnphonanbopaaFlE
import Derived.OrdersHeld
namespace Go.FL
open Go Go.RowKit

def SH (D : Nat) (K : Hl) (s0 : World) : World → Prop := fun w => ∃ L s, w = fill L s ∧ OKL D L s ∧ Le D s0 s ∧ ∀ x ∈ K, x ∈ L
def noPan (Q : Exit → Act → World → Prop) : Exit → Act → World → Prop
  | .panic _, _, _ => False
  | e, a, w => Q e a w
def JA (P : Program) (TT : TyTab) (D n : Nat) (ops : Array Oper) (Q : APost) (K : Hl) (s0 : World) (fuel : Nat) (listed : Array Bool) (fr : Fr) (L : Hl) (s : World) : Prop :=
  TabOK P TT → ∀ a, FrRel n a fr → OKL D L s → Le D s0 s → (∀ x ∈ K, x ∈ L) → wpAnyH P .any ops (noPan (conc D n Q)) (SH D K s0) fuel listed a (fill L s)
/-- operation i is carried out now -/
def JB (P : Program) (TT : TyTab) (D n : Nat) (ops : Array Oper) (Q : APost) (K : Hl) (s0 : World) (fuel : Nat) (listed : Array Bool) (i : Nat) (fr : Fr) (L : Hl) (s : World) : Prop :=
  TabOK P TT → ∀ a, FrRel n a fr → OKL D L s → Le D s0 s → (∀ x ∈ K, x ∈ L) →
    wpOp P ops (noPan (conc D n Q)) i (fun a' w' => SH D K s0 w' ∧ wpAnyH P .any ops (noPan (conc D n Q)) (SH D K s0) fuel (listed.setIfInBounds i true) a' w') a (fill L s)
def GOK (ops : Array Oper) (fr : Fr) : Option (Nat × Bool) → Prop
  | none => True
  | some (j, w) => ∃ t, gslot ops j = some t ∧ flook fr t = some (.bool w)

section
variable {P : Program} {TT : TyTab} {D n : Nat} {Q : APost} {fr : Fr} {L L' K : Hl} {s s' s0 : World} {ops : Array Oper} {d ty : Nat} {op : Op} {pos : String} {af : Array Edge} {g : Option (Nat × Bool)} {v : Value} {fuel : Nat} {listed : Array Bool}

theorem GOK.wanted {dst : Option Nat} {a : Act} (hr : FrRel n a fr) (h : GOK ops fr g) : Region.wanted ⟨dst, op, ty, pos, af, g⟩ (yielded ops a.tmps) = true := by
  cases g with
  | none => rfl
  | some jw =>
    obtain ⟨j, w⟩ := jw
    obtain ⟨t, h1, h2⟩ := h
    have h3 := hr.slot t (hr.top _ _ h2) _ h2
    unfold gslot at h1
    simp [Region.wanted, yielded, h1, h3]
theorem erase_setL {L : Hl} {i : Nat} {x : Nat × Obj} (h : x ∈ L.eraseIdx i) (o : Obj) : x ∈ setL L i o := by
  induction L generalizing i with
  | nil => simp at h
  | cons y L ih =>
    cases i with
    | zero => exact List.mem_cons_of_mem _ (by simpa using h)
    | succ i =>
      simp only [List.eraseIdx_cons_succ, List.mem_cons] at h
      rcases h with rfl | h
      · exact List.mem_cons_self ..
      · exact List.mem_cons_of_mem _ (ih h)
theorem sbY {α : Type} {a b : List α} {x : α} (h : a.Sublist b) : (x :: a).Sublist (x :: b) := List.cons_sublist_cons.2 h
theorem sbN {α : Type} {a b : List α} {x : α} (h : a.Sublist b) : a.Sublist (x :: b) := List.Sublist.cons _ h
theorem sbE {α : Type} (a : List α) : a.Sublist a := List.Sublist.refl a
theorem sb0 {α : Type} (a : List α) : ([] : List α).Sublist a := List.nil_sublist a
theorem sub_mem {α : Type} {a b : List α} {x : α} (h : a.Sublist b) (hx : x ∈ a) : x ∈ b := h.subset hx
theorem JC_draw {id : Nat} {l : List Oper} (hm : P.follows .mixedOrders = true) (N : Nat) (hN : l.length = N) (K : Hl) (hK : ∀ x ∈ K, x ∈ L)
    (h : ∀ s', Le D s s' → JA P TT D n l.toArray Q K s' N (Array.replicate N false) fr L s') : JC P TT D n Q (.region id l.toArray true) fr L s := fun ht a hr ho => by
  subst hN
  have h1 := h s.drew (Le.drew s) ht a hr ho.drew (Le.refl _) hK
  refine wp_mono (wp_region_held (Q := noPan (conc D n Q)) (S := SH D K s.drew) hm ?_) (fun e a w hq => by cases e <;> first | exact hq | exact hq.elim)
  rw [← drew_fill] at h1
  simpa using h1
theorem JA_done (hr : Region.ready .any ops listed = []) (h : Q .normal fr L s) : JA P TT D n ops Q K s0 fuel listed fr L s := fun _ a hf ho _ _ =>
  wpAnyH_done hr ⟨fr, L, s, hf, ho, rfl, h⟩ fuel
theorem JA_q (i : Nat) (hi : ops[i]? = some ⟨some d, op, ty, pos, af, g⟩) (hs : Region.noSelect ops = true) (hf : Region.free .any ops listed i = true) (hr : (Region.ready .any ops listed).contains i = true) (hg : GOK ops fr g)
    (hq : QE P TT D fr op ty K s0 v) (hd : Nat.blt d n = true) (k : JA P TT D n ops Q K s0 fuel (listed.setIfInBounds i true) ((d, v) :: fr) L s) : JA P TT D n ops Q K s0 (fuel + 1) listed fr L s := fun ht a hfr ho hl hK => by
  refine wpAnyH_take hi hs hf hr (fun _ _ _ h => h.elim) (v := v) (.inl ⟨hg.wanted hfr, ?_⟩) ⟨L, s, rfl, ho, hl, hK⟩ (k ht _ (hfr.put hd v) ho hl hK)
  rintro w ⟨L2, s2, rfl, h1, h2, h3⟩
  exact hq ht _ _ _ _ _ (fun x v hx => hfr.ev hx) L2 s2 h1 h2 h3
/-- an operation whose guard says no -/
theorem JA_no (i : Nat) {j t : Nat} {w b : Bool} (hi : ops[i]? = some ⟨some d, op, ty, pos, af, some (j, w)⟩) (hs : Region.noSelect ops = true) (hf : Region.free .any ops listed i = true) (hr : (Region.ready .any ops listed).contains i = true)
    (hj : gslot ops j = some t) (hv : flook fr t = some (.bool b)) (hb : (b != w) = true) (hd : Nat.blt d n = true) (k : JA P TT D n ops Q K s0 fuel (listed.setIfInBounds i true) ((d, undef) :: fr) L s) : JA P TT D n ops Q K s0 (fuel + 1) listed fr L s := fun ht a hfr ho hl hK => by
  refine wpAnyH_take hi hs hf hr (fun _ _ _ h => h.elim) (v := undef) (.inr ⟨?_, rfl⟩) ⟨L, s, rfl, ho, hl, hK⟩ (k ht _ (hfr.put hd undef) ho hl hK)
  have h3 := hfr.slot t (hfr.top _ _ hv) _ hv
  unfold gslot at hj
  have hne : (some b == some w) = false := by cases b <;> cases w <;> simp_all
  simp [Region.wanted, yielded, hj, h3, hne]
theorem JA_noU (i : Nat) {j t : Nat} {w : Bool} (hi : ops[i]? = some ⟨some d, op, ty, pos, af, some (j, w)⟩) (hs : Region.noSelect ops = true) (hf : Region.free .any ops listed i = true) (hr : (Region.ready .any ops listed).contains i = true)
    (hj : gslot ops j = some t) (hv : flook fr t = some undef) (hd : Nat.blt d n = true) (k : JA P TT D n ops Q K s0 fuel (listed.setIfInBounds i true) ((d, undef) :: fr) L s) : JA P TT D n ops Q K s0 (fuel + 1) listed fr L s := fun ht a hfr ho hl hK => by
  refine wpAnyH_take hi hs hf hr (fun _ _ _ h => h.elim) (v := undef) (.inr ⟨?_, rfl⟩) ⟨L, s, rfl, ho, hl, hK⟩ (k ht _ (hfr.put hd undef) ho hl hK)
  have h3 := hfr.slot t (hfr.top _ _ hv) _ hv
  unfold gslot at hj
  simp [Region.wanted, yielded, hj, h3, undef]
theorem JA_case {t : Nat} {b : Bool} (hv : flook fr t = some (.bool b)) (h1 : b = true → JA P TT D n ops Q K s0 fuel listed ((t, .bool true) :: fr) L s) (h2 : b = false → JA P TT D n ops Q K s0 fuel listed ((t, .bool false) :: fr) L s) :
    JA P TT D n ops Q K s0 fuel listed fr L s := fun ht a hr ho hl hK => by
  cases b with
  | true => exact h1 rfl ht a (hr.sub fun t' v' h => by rw [flook_cons] at h; split at h <;> simp_all) ho hl hK
  | false => exact h2 rfl ht a (hr.sub fun t' v' h => by rw [flook_cons] at h; split at h <;> simp_all) ho hl hK
theorem JA_caseD {t : Nat} {p : Prop} [Decidable p] (hv : flook fr t = some (.bool (decide p))) (h1 : p → JA P TT D n ops Q K s0 fuel listed ((t, .bool true) :: fr) L s) (h2 : ¬ p → JA P TT D n ops Q K s0 fuel listed ((t, .bool false) :: fr) L s) :
    JA P TT D n ops Q K s0 fuel listed fr L s := JA_case hv (fun h => h1 (of_decide_eq_true h)) (fun h => h2 (of_decide_eq_false h))
theorem JA_caseM {t : Nat} {b : Bool} (hv : flook fr t = some (.bool (!b))) (h1 : b = false → JA P TT D n ops Q K s0 fuel listed ((t, .bool true) :: fr) L s) (h2 : b = true → JA P TT D n ops Q K s0 fuel listed ((t, .bool false) :: fr) L s) :
    JA P TT D n ops Q K s0 fuel listed fr L s := JA_case hv (fun h => h1 (by simpa using h)) (fun h => h2 (by simpa using h))
theorem JA_caseN {t : Nat} {p : Prop} [Decidable p] (hv : flook fr t = some (.bool (!decide p))) (h1 : ¬ p → JA P TT D n ops Q K s0 fuel listed ((t, .bool true) :: fr) L s) (h2 : p → JA P TT D n ops Q K s0 fuel listed ((t, .bool false) :: fr) L s) :
    JA P TT D n ops Q K s0 fuel listed fr L s := JA_case hv (fun h => h1 (by simpa using h)) (fun h => h2 (by simpa using h))

theorem JA_all {rs : List Nat} (hr : Region.ready .any ops listed = rs) (hne : rs ≠ []) (h : ∀ i ∈ rs, JB P TT D n ops Q K s0 fuel listed i fr L s) : JA P TT D n ops Q K s0 (fuel + 1) listed fr L s := fun ht a hf ho hl hK =>
  wpAnyH_all hr hne fun i hi => h i hi ht a hf ho hl hK
theorem JA_1 (i : Nat) (hr : Region.ready .any ops listed = [i]) (h : JB P TT D n ops Q K s0 fuel listed i fr L s) : JA P TT D n ops Q K s0 (fuel + 1) listed fr L s :=
  JA_all hr (by simp) (by simpa using h)
theorem JA_2 (i j : Nat) (hr : Region.ready .any ops listed = [i, j]) (h : JB P TT D n ops Q K s0 fuel listed i fr L s) (h' : JB P TT D n ops Q K s0 fuel listed j fr L s) : JA P TT D n ops Q K s0 (fuel + 1) listed fr L s :=
  JA_all hr (by simp) (by simpa using ⟨h, h'⟩)
theorem JA_3 (i j m : Nat) (hr : Region.ready .any ops listed = [i, j, m]) (h : JB P TT D n ops Q K s0 fuel listed i fr L s) (h' : JB P TT D n ops Q K s0 fuel listed j fr L s) (h'' : JB P TT D n ops Q K s0 fuel listed m fr L s) : JA P TT D n ops Q K s0 (fuel + 1) listed fr L s :=
  JA_all hr (by simp) (by simpa using ⟨h, h', h''⟩)

theorem JB_ev {i : Nat} (hi : ops[i]? = some ⟨some d, op, ty, pos, af, g⟩) (hg : GOK ops fr g) (h : Ev P TT D fr op ty L s (.value v) L' s') (hle : Le D s s') (hK' : ∀ x ∈ K, x ∈ L → x ∈ L') (hd : Nat.blt d n = true) (k : JA P TT D n ops Q K s0 fuel (listed.setIfInBounds i true) ((d, v) :: fr) L' s') :
    JB P TT D n ops Q K s0 fuel listed i fr L s := fun ht a hf ho hl hK => by
  obtain ⟨h1, h2⟩ := h ht ho (some d) pos af g a.eval (fun x v hx => hf.ev hx)
  simp only [wpOp, hi, hg.wanted hf, if_true]
  refine .inl ?_
  simp only [Oper.wp, h1, Oper.upon]
  have hK2 : ∀ x ∈ K, x ∈ L' := fun x hx => hK' x hx (hK x hx)
  exact ⟨⟨L', s', rfl, h2, hl.trans hle, hK2⟩, k ht _ (hf.put hd v) h2 (hl.trans hle) hK2⟩
theorem JB_sk {i : Nat} (hi : ops[i]? = some ⟨none, op, ty, pos, af, g⟩) (hg : GOK ops fr g) (h : Ev P TT D fr op ty L s .skip L' s') (hle : Le D s s') (hK' : ∀ x ∈ K, x ∈ L → x ∈ L') (k : JA P TT D n ops Q K s0 fuel (listed.setIfInBounds i true) fr L' s') :
    JB P TT D n ops Q K s0 fuel listed i fr L s := fun ht a hf ho hl hK => by
  obtain ⟨h1, h2⟩ := h ht ho none pos af g a.eval (fun x v hx => hf.ev hx)
  simp only [wpOp, hi, hg.wanted hf, if_true]
  refine .inl ?_
  simp only [Oper.wp, h1, Oper.upon]
  have hK2 : ∀ x ∈ K, x ∈ L' := fun x hx => hK' x hx (hK x hx)
  exact ⟨⟨L', s', rfl, h2, hl.trans hle, hK2⟩, k ht _ hf h2 (hl.trans hle) hK2⟩
/-- a quiet operation that is carried out as it comes up -/
theorem JB_q {i : Nat} (hi : ops[i]? = some ⟨some d, op, ty, pos, af, g⟩) (hg : GOK ops fr g) (h : QE P TT D fr op ty L s v) (hd : Nat.blt d n = true) (k : JA P TT D n ops Q K s0 fuel (listed.setIfInBounds i true) ((d, v) :: fr) L s) :
    JB P TT D n ops Q K s0 fuel listed i fr L s :=
  JB_ev hi hg (fun ht ho dst pos af g ρ hρ => ⟨h ht dst pos af g ρ hρ L s ho (Le.refl _) (fun _ hx => hx), ho⟩) (Le.refl _) (fun _ _ h => h) hd k
theorem JB_call {i : Nat} {f : FuncId} {x : Operand} {xs : List Operand} {first captured vs : List Value} {ts : Array TypeId} {R : Value → Hl → World → Prop} (hi : ops[i]? = some ⟨some d, .call { callee := .value x, args := xs.toArray, argTypes := ts }, ty, pos, af, g⟩) (hg : GOK ops fr g)
    (hx : lk fr x = some (.func (.func f) first.toArray captured.toArray)) (hv : lks fr xs = some vs) (hd : Nat.blt d n = true) (h : AC P D f (first ++ vs ++ captured) L s R)
    (k : ∀ v L' s', Le D s s' → R v L' s' → (∀ x ∈ K, x ∈ L → x ∈ L') ∧ JA P TT D n ops Q K s0 fuel (listed.setIfInBounds i true) ((d, v) :: fr) L' s') :
    JB P TT D n ops Q K s0 fuel listed i fr L s := fun hT a hf ho hl hK => by
  obtain ⟨⟨fn, h1, h2, h3⟩, hc⟩ := h
  have hρ : ∀ x v, lk fr x = some v → a.eval x = v := fun x v hx => hf.ev hx
  simp only [wpOp, hi, hg.wanted hf, if_true]
  refine .inl ?_
  have hrun : (execOp a.eval ⟨some d, .call { callee := .value x, args := xs.toArray, argTypes := ts }, ty, pos, af, g⟩).run P (fill L s) = .ok (.enter f (first ++ vs ++ captured).toArray) (fill L s) := by
    have h2' : ¬ fn.name = "runtime.NumGoroutine" := by simpa using h2
    have h3' : ¬ fn.body = none := by intro e; simp [e] at h3
    simp [execOp, resolve, Deferred.ofValue, invoke, callFunc, hρ x _ hx, lks_map hρ hv, h1, h2', h3']
  simp only [Oper.wp, hrun, Oper.upon]
  refine (hc ho).mono ?_
  rintro e w' ⟨v, L', s', rfl, rfl, h4, h5, h6⟩
  obtain ⟨k1, k2⟩ := k v L' s' h5 h6
  have hK2 : ∀ x ∈ K, x ∈ L' := fun x hx => k1 x hx (hK x hx)
  exact ⟨⟨L', s', rfl, h4, hl.trans h5, hK2⟩, k2 hT _ (hf.put hd v) h4 (hl.trans h5) hK2⟩
theorem JB_alloc {i t : Nat} {ti : TI} (hi : ops[i]? = some ⟨some d, .alloc t, ty, pos, af, g⟩) (hg : GOK ops fr g) (ht : tlook TT t = some ti) (zs : List Value) (hz : ti.zeros = zs) (hd : Nat.blt d n = true)
    (k : ∀ β s', Le D s s' → JA P TT D n ops Q K s0 fuel (listed.setIfInBounds i true) ((d, .pointer (some ⟨β, 0, none⟩)) :: fr) ((β, cb zs t) :: L) s') : JB P TT D n ops Q K s0 fuel listed i fr L s := fun hT a hf ho hl hK => by
  subst hz
  exact JB_ev hi hg (Ev_alloc ht ho) (alloc_fill ho (cb ti.zeros t)).2.2 (fun x _ h => List.mem_cons_of_mem _ h) hd (k _ _ (alloc_fill ho (cb ti.zeros t)).2.2) hT a hf ho hl hK
theorem JB_st {i0 t b off : Nat} {x y : Operand} {ti : TI} {t' : Nat} {zs : List Value} (hi0 : ops[i0]? = some ⟨none, .store t x y, ty, pos, af, g⟩) (hg : GOK ops fr g) (i : Nat) (zs' : List Value) {L' : Hl} (hx : lk fr x = some (.pointer (some ⟨b, off, none⟩))) (hy : lk fr y = some v) (hi : L[i]? = some (b, cb zs t')) (ht : tlook TT t = some ti)
    (hl : (cellsL v).length = ti.size) (hle : Nat.ble (off + ti.size) zs.length = true) (h1 : (cellsL v).all (·.oneCell') = true) (hs : splice zs off (cellsL v) = zs') (hL : setL L i (cb zs' t') = L') (hK' : ∀ x ∈ K, x ∈ L.eraseIdx i)
    (k : JA P TT D n ops Q K s0 fuel (listed.setIfInBounds i0 true) fr L' s) : JB P TT D n ops Q K s0 fuel listed i0 fr L s := by
  subst hL; exact JB_sk hi0 hg (Ev_st i zs' hx hy hi ht hl hle h1 hs) (Le.refl _) (fun x hx _ => erase_setL (hK' x hx) _) k

theorem fill_perm {A B : Hl} (h : A.Perm B) : ∀ s, OKL D A s → fill A s = fill B s := by
  induction h with
  | nil => intro s _; rfl
  | cons x _ ih => intro s ho; simp only [fill]; rw [ih s ho.tail]
  | swap x y l =>
    intro s ho
    simp only [fill]
    have := ho.nd
    simp only [List.map_cons, List.nodup_cons, List.mem_cons, not_or] at this
    exact setBlk_comm _ _ (fun e => this.1.1 e.symm)
  | trans h1 h2 ih1 ih2 =>
    intro s ho
    rw [ih1 s ho, ih2 s ⟨(h1.map _).nodup_iff.1 ho.nd, fun x hx => ho.dm x (h1.mem_iff.2 hx)⟩]
theorem OKL.perm {A B : Hl} (h : A.Perm B) (ho : OKL D A s) : OKL D B s := ⟨(h.map _).nodup_iff.1 ho.nd, fun x hx => ho.dm x (h.mem_iff.2 hx)⟩
/-- ways that meet again: what is known there, as one statement -/
def Mid {γ : Type} (S : γ → Fr) (H : γ → Hl) (I : γ → World → Prop) : Fr → Hl → World → Prop := fun fr' L' s' => ∃ g A, Keeps fr' (S g) ∧ L'.Perm (A ++ H g) ∧ I g s'
theorem Mid.mk {γ : Type} {S : γ → Fr} {H : γ → Hl} {I : γ → World → Prop} (g : γ) (A : Hl) (h1 : Keeps fr (S g)) (h2 : L.Perm (A ++ H g)) (h3 : I g s) : Mid S H I fr L s := ⟨g, A, h1, h2, h3⟩
theorem JC_cut {γ : Type} {x y : Code} (S : γ → Fr) (H : γ → Hl) (I : γ → World → Prop) (mono : ∀ g s s', I g s → Le D s s' → I g s') (h1 : JC P TT D n (thenQ (Mid S H I) Q) x fr L s)
    (h2 : ∀ g s', I g s' → JC P TT D n Q y (S g) (H g) s') : JC P TT D n Q (.seq x y) fr L s := fun ht a hr ho =>
  wp_seq (wp_mono (h1 ht a hr ho) fun e a w ⟨fr', L', s', k1, k2, k3, k4⟩ => by
    cases e with
    | normal =>
      subst k3
      obtain ⟨g, A, j1, j2, j3⟩ := k4
      rw [fill_perm j2 _ k2]
      obtain ⟨e, d1, d2⟩ := drop_own (k2.perm j2)
      rw [e]
      exact h2 g _ (mono _ _ _ j3 d2) ht a (k1.sub j1) d1
    | _ => exact ⟨fr', L', s', k1, k2, k3, k4⟩)
end
end Go.FL

/- Part 2 of the proof of syntaxParseMatchesSpec_holds: texts FlI, FlK, FlZ, V2, Ds, V3, Dm, Dx, FlL, Dv, V18, Ea, Eb, Ed, Nv, FlP, Ga, Gb, FlQ, Tr, Tv, C1, Ch, C2, Tw. -/
import Derived.Test.YtiljephghfngnaaGreatDoorQ27x1
import Derived.Maps.AppendAt
import Derived.Laws.MakeOwn
import Derived.Laws.CopyRow
import Derived.MapKept
import Derived.Laws.BytesString
import Derived.Laws.RangeAny
import Derived.Lib.DecodeN
import Derived.Lib.SmallJoins
import Derived.Lib.ItoaMem
import Derived.Lib.AppendStr
import Derived.Laws.IdiomStrings
import Derived.WideLaws
import Derived.Laws.Externs
import Derived.Shelf.Slices.Empties2
import Derived.Lib.Builder
import Derived.Lib.UnsafeStr
set_option linter.unusedVariables false
set_option linter.unusedSimpArgs false
set_option linter.unnecessarySimpa false
set_option maxRecDepth 100000
set_option maxHeartbeats 8000000
namespace Go.FL
open Go Go.RowKit
variable {D : Nat}
theorem of_grown {L L' : Hl} {s w' : World} (h : OKL D L s) (hos : w'.os = s.os) (htp : w'.tape = s.tape) (hout : w'.output = s.output) (hsz : s.heap.size ≤ w'.heap.size) (hnd : (L'.map (·.1)).Nodup)
    (hin : ∀ x ∈ L', w'.heap[x.1]? = some x.2) (hkeys : ∀ x ∈ L', x.1 ∈ L.map (·.1) ∨ s.heap.size ≤ x.1) (hold : ∀ k, k < s.heap.size → k ∉ L.map (·.1) → w'.heap[k]? = s.heap[k]?) :
    w' = fill L' (blank D L' w') ∧ OKL D L' (blank D L' w') ∧ Le D s (blank D L' w') := by
  have hlt : ∀ x ∈ L', x.1 < w'.heap.size := fun x hx => by
    have := hin x hx
    rcases Nat.lt_or_ge x.1 w'.heap.size with h1 | h1
    · exact h1
    · rw [Array.getElem?_eq_none h1] at this; cases this
  have hok : OKL D L' (blank D L' w') := ⟨hnd, fun x hx => blank_mem hlt (List.mem_map.2 ⟨x, hx, rfl⟩)⟩
  refine ⟨world_eq (heap_ext fun k => ?_) ?_ ?_ ?_ ?_, hok, ⟨?_, ?_, ?_, by rw [blank_size]; exact hsz, fun k hk => ?_⟩⟩
  · by_cases hk : k ∈ L'.map (·.1)
    · obtain ⟨x, hx, rfl⟩ := List.mem_map.1 hk
      rw [fill_mem hok hx, hin x hx]
    · rw [fill_other hk, blank_other hk]
  · rw [fill_tape, blank_tape]
  · rw [fill_drawn, blank_drawn]
  · rw [fill_os, blank_os]
  · rw [fill_output, blank_output]
  · rw [blank_os, hos]
  · rw [blank_tape, htp]
  · rw [blank_output, hout]
  · by_cases hd : s.heap[k]? = some (dum D)
    · exact .inl hd
    · have hk1 := not_key h hd
      have hk2 : k ∉ L'.map (·.1) := fun hm => by
        obtain ⟨x, hx, rfl⟩ := List.mem_map.1 hm
        rcases hkeys x hx with h1 | h1
        · exact hk1 h1
        · omega
      exact .inr (by rw [blank_other hk2, hold k hk hk1])
inductive Own (e sz : Nat) : Hl → Value → Nat → List Value → Prop
  | nil : FL.Own e sz [] (.slice none 0 0) 0 []
  | blk (b cap n : Nat) (xs ys : List Value) (hn : xs.length = n * sz) (hc : xs.length + ys.length = cap * sz) (hnc : n ≤ cap) (hm : cap ≤ 9223372036854775807) : FL.Own e sz [(b, cb (xs ++ ys) e)] (.slice (some ⟨b, 0, none⟩) n cap) n xs
def Row (s : World) (A : Option Addr) (m sz : Nat) (news : List Value) : Prop :=
  news.length = m * sz ∧ (∀ u ∈ news, u.oneCell' = true) ∧ ∀ j u, news[j]? = some u → ∃ b off, A = some ⟨b, off, none⟩ ∧ s.cell? ⟨b, off + j, none⟩ = some u
theorem Row.of_cells {s : World} {b off m sz : Nat} {news : List Value} (h : CellsAt s b off news) (hl : news.length = m * sz) (h1 : news.all (·.oneCell') = true) : Row s (some ⟨b, off, none⟩) m sz news :=
  ⟨hl, fun u hu => List.all_eq_true.1 h1 u hu, fun j u hj => ⟨b, off, rfl, h j u hj⟩⟩
theorem Row.le {s s' : World} {A : Option Addr} {m sz : Nat} {news : List Value} (h : Row s A m sz news) (hl : Le D s s') : Row s' A m sz news :=
  ⟨h.1, h.2.1, fun j u hj => by obtain ⟨b, off, h1, h2⟩ := h.2.2 j u hj; exact ⟨b, off, h1, hl.cell h2⟩⟩
theorem Own.owns {e sz : Nat} {A : Hl} {v : Value} {n : Nat} {xs : List Value} (h : FL.Own e sz A v n xs) {w : World} (hw : ∀ x ∈ A, w.heap[x.1]? = some x.2) : w.ownsRow 0 e sz v n xs := by
  cases h with
  | nil => exact World.ownsRow_nil w 0 e sz
  | blk b cap n xs ys hn hc hnc hm =>
    refine ⟨hn, .inr ⟨b, cap, (xs ++ ys).toArray, Z, Nat.zero_le _, hw _ (List.mem_cons_self ..), hnc, by simpa [maxLen] using hm, by simpa using hc, ?_⟩⟩
    rw [← hn]; simp
theorem Own.key {e sz : Nat} {A : Hl} {v : Value} {n : Nat} {xs : List Value} (h : FL.Own e sz A v n xs) (k : Nat) : k ∈ A.map (·.1) ↔ v.ownBlock = some k := by
  cases h with
  | nil => simp [Value.ownBlock]
  | blk b cap n xs ys => simp [Value.ownBlock, eq_comm]
theorem Own.of_owns {e sz : Nat} {w : World} {v : Value} {n : Nat} {xs : List Value} (h : w.ownsRow 0 e sz v n xs) : ∃ A, FL.Own e sz A v n xs ∧ ∀ x ∈ A, w.heap[x.1]? = some x.2 := by
  obtain ⟨h1, h2⟩ := h
  rcases h2 with ⟨rfl, rfl⟩ | ⟨g, cap, cur, rfl, _, hg, hnc, hcm, hcs, ht⟩
  · have : xs = [] := List.eq_nil_of_length_eq_zero (by simpa using h1)
    subst this
    exact ⟨[], .nil, fun x hx => by cases hx⟩
  · have he : cur = (xs ++ cur.toList.drop (n * sz)).toArray := by
      rw [← ht, List.take_append_drop]
    have hcs' : xs.length + (cur.toList.drop (n * sz)).length = cap * sz := by
      rw [← hcs, ← List.length_append]
      have := congrArg Array.size he
      simpa using this.symm
    refine ⟨[(g, cb (xs ++ cur.toList.drop (n * sz)) e)], .blk g cap n xs _ h1 hcs' hnc (by simpa [maxLen] using hcm), fun x hx => ?_⟩
    simp only [List.mem_singleton] at hx
    subst hx
    rw [hg, cb, ← he]
theorem mem_mid {B A L0 : Hl} {x : Nat × Obj} : x ∈ B ++ (A ++ L0) ↔ x ∈ B ∨ x ∈ A ∨ x ∈ L0 := by simp
theorem of_row {B A A' L0 : Hl} {s w' : World} {e sz : Nat} {v v' : Value} {n n' : Nat} {xs xs' : List Value} (h : OKL D (B ++ (A ++ L0)) s) (hO : FL.Own e sz A v n xs) (hO' : FL.Own e sz A' v' n' xs') (hA' : ∀ x ∈ A', w'.heap[x.1]? = some x.2)
    (hg : (fill (B ++ (A ++ L0)) s).grownBy w' v.ownBlock) (hat : v'.ownBlock = v.ownBlock ∨ v'.ownBlock = some s.heap.size) :
    w' = fill (B ++ (A' ++ L0)) (blank D (B ++ (A' ++ L0)) w') ∧ OKL D (B ++ (A' ++ L0)) (blank D (B ++ (A' ++ L0)) w') ∧ Le D s (blank D (B ++ (A' ++ L0)) w') := by
  have hnd := h.nd
  have hkA' : ∀ k, k ∈ A'.map (·.1) → k ∈ A.map (·.1) ∨ k = s.heap.size := fun k hk => by
    rw [hO'.key] at hk
    rcases hat with h1 | h1
    · exact .inl ((hO.key k).2 (h1 ▸ hk))
    · rw [h1] at hk; injection hk with hk; exact .inr hk.symm
  have hsize := hg.size
  rw [fill_size] at hsize
  have hlt : ∀ x ∈ B ++ (A ++ L0), x.1 < s.heap.size := fun x hx => h.lt hx
  simp only [List.map_append, List.nodup_append, List.mem_append] at hnd
  obtain ⟨nB, ⟨nA, nL, dAL⟩, dB⟩ := hnd
  have hrest : ∀ x, x ∈ B ∨ x ∈ L0 → w'.heap[x.1]? = some x.2 := fun x hx => by
    have hmem : x ∈ B ++ (A ++ L0) := mem_mid.2 (by rcases hx with h1 | h1; exact .inl h1; exact .inr (.inr h1))
    rw [hg.block x.1 (by rw [fill_size]; exact hlt x hmem), fill_mem h hmem]
    intro he
    have hk := (hO.key x.1).2 he.symm
    rcases hx with h1 | h1
    · exact dB _ (List.mem_map.2 ⟨x, h1, rfl⟩) _ (.inl hk) rfl
    · exact dAL _ hk _ (List.mem_map.2 ⟨x, h1, rfl⟩) rfl
  refine of_grown h (hg.os.trans (fill_os _ _)) (hg.tape.trans (fill_tape _ _)) (hg.output.trans (fill_output _ _)) hsize ?_ ?_ ?_ ?_
  · have nA' : (A'.map (·.1)).Nodup := by cases hO' <;> simp
    simp only [List.map_append, List.nodup_append, List.mem_append]
    refine ⟨nB, ⟨nA', nL, fun a ha b hb he => ?_⟩, fun a ha b hb he => ?_⟩
    · subst he
      rcases hkA' a ha with h1 | h1
      · exact dAL _ h1 _ hb rfl
      · obtain ⟨x, hx, rfl⟩ := List.mem_map.1 hb
        have := hlt x (mem_mid.2 (.inr (.inr hx))); omega
    · subst he
      rcases hb with hb | hb
      · rcases hkA' a hb with h1 | h1
        · exact dB _ ha _ (.inl h1) rfl
        · obtain ⟨x, hx, rfl⟩ := List.mem_map.1 ha
          have := hlt x (mem_mid.2 (.inl hx)); omega
      · exact dB _ ha _ (.inr hb) rfl
  · intro x hx
    rcases mem_mid.1 hx with h1 | h1 | h1
    · exact hrest x (.inl h1)
    · exact hA' x h1
    · exact hrest x (.inr h1)
  · intro x hx
    rcases mem_mid.1 hx with h1 | h1 | h1
    · exact .inl (List.mem_map.2 ⟨x, mem_mid.2 (.inl h1), rfl⟩)
    · rcases hkA' x.1 (List.mem_map.2 ⟨x, h1, rfl⟩) with h2 | h2
      · exact .inl (by rw [List.map_append, List.map_append]; simp only [List.mem_append]; exact .inr (.inl h2))
      · exact .inr O
    · exact .inl (List.mem_map.2 ⟨x, mem_mid.2 (.inr (.inr h1)), rfl⟩)
  · intro k hk hn
    rw [hg.block k (by rw [fill_size]; exact hk), fill_other hn]
    intro he
    exact hn (by rw [List.map_append, List.map_append]; simp only [List.mem_append]; exact .inr (.inl ((hO.key k).2 he.symm)))
section
variable {P : Program} {TT : TyTab} {n : Nat} {Q : APost} {fr : Fr} {L L' K : Hl} {s s' s0 : World} {ops : Array Oper} {rest : List Oper} {d ty : Nat} {op : Op} {pos : String} {af : Array Edge} {v : Value}
theorem Ev_app {t e m c k sz : Nat} {x y : Operand} {ti te : TI} {A1 : Option Addr} {news xs : List Value} (B A L0 : Hl) (hT : TabOK P TT) (hx : lk fr x = some v) (hy : lk fr y = some (.slice A1 m c)) (ht : tlook TT t = some ti) (hk : ti.kind = .sl e) (he : tlook TT e = some te) (hsz : te.size = sz)
    (hO : FL.Own e sz A v k xs) (hR : Row s A1 m sz news) (h63 : (k + m) * te.bytes ≤ 140737488355328 ∧ k + m ≤ 9223372036854775807) (ho : OKL D (B ++ (A ++ L0)) s) :
    ∃ v' A' s', Ev P TT D fr (.call { callee := .builtin .append, args := #[x, y], argTypes := #[t, t] }) ty (B ++ (A ++ L0)) s (.value v') (B ++ (A' ++ L0)) s' ∧ Le D s s' ∧ FL.Own e sz A' v' (k + m) (xs ++ news) := by
  have hok := hT.at_ ht
  obtain ⟨k1, k2, _⟩ := hok
  rw [hk] at k2
  simp only [TK.fits] at k2
  rw [k2] at k1
  have hte := hT.at_ he
  obtain ⟨i, i1, i2, i3, i4⟩ := info_of hte
  have hpos : 0 < te.size := hte.2.2.2.2.2.1
  have hzs : te.zero.cells.size = te.size := by rw [zero_cells hte]; simpa using hte.2.2.2.1
  have hin : ∀ x ∈ A, (fill (B ++ (A ++ L0)) s).heap[x.1]? = some x.2 := fun x hx => fill_mem ho (mem_mid.2 (.inr (.inl hx)))
  have hown := hO.owns hin
  by_cases hm : m = 0
  · subst hm
    have hn : news = [] := List.eq_nil_of_length_eq_zero (by simpa using hR.1)
    subst hn
    refine ⟨v, A, s, fun hT ho dst pos af g ρ hρ => ⟨?_, ho⟩, Le.refl _, by simpa using hO⟩
    have hle : ∀ (A2 : Option Addr) (w : World), (Builtin.firstCells te.size 0 (.slice A2 0 c)).run P w = .ok #[] w := fun A2 w => by
      cases A2 <;> simp [Builtin.firstCells, loadCells, loadCellsFrom]
    cases hO with
    | nil => simp [execOp, resolve, invoke, builtin, Builtin.append_, hρ x _ hx, hρ y _ hy, run_underlying k1, run_sizeOf' hte, Builtin.lenOf, hle]
    | blk b cap n xs ys hn hc hnc hm => simp [execOp, resolve, invoke, builtin, Builtin.append_, hρ x _ hx, hρ y _ hy, run_underlying k1, run_sizeOf' hte, Builtin.lenOf, hle, hnc, storeCells]
  · have h0 : ∃ b off, A1 = some ⟨b, off, none⟩ ∧ CellsAt s b off news := by
      have hl : 0 < news.length := by rw [hR.1, ← hsz]; exact Nat.mul_pos (Nat.pos_of_ne_zero hm) hpos
      obtain ⟨b, off, h1, _⟩ := hR.2.2 0 news[0] (List.getElem?_eq_getElem hl)
      refine ⟨b, off, h1, fun j u hj => ?_⟩
      obtain ⟨b', off', h1', h2⟩ := hR.2.2 j u hj
      rw [h1] at h1'
      injection h1' with h1'; injection h1' with e1 e2; subst e1; subst e2
      exact h2
    obtain ⟨b, off, rfl, hcells⟩ := h0
    obtain ⟨v', w', hrun, hown', hgr, _, hat⟩ := run_append_own_at (P := P) (fill (B ++ (A ++ L0)) s) 0 t ty e i te.zero sz te.bytes k1 i1 i4 (i2.trans hsz) i3 (by rw [hzs, hsz]) (by rw [← hsz]; exact hpos) v k xs hown ⟨b, off, none⟩ m c news hR.1
      (fun j u hj => by rw [add_lit]; exact fill_cell ho (hcells j u hj)) hR.2.1 (by simpa [maxLen] using h63.2) h63.1 (Nat.zero_le _)
    obtain ⟨A', hO', hA'⟩ := Own.of_owns hown'
    rw [fill_size] at hat
    obtain ⟨r1, r2, r3⟩ := of_row (D := D) ho hO hO' hA' hgr hat
    refine ⟨v', A', blank D (B ++ (A' ++ L0)) w', fun hT ho dst pos af g ρ hρ => ⟨?_, r2⟩, r3, hO'⟩
    rw [← r1]
    simp only [execOp, resolve, invoke, builtin, Sem.run_bind, Sem.run_pure, Result.andThen_ok, List.map_toArray, List.map_cons, List.map_nil, hρ x _ hx, hρ y _ hy, hrun]
theorem JO_app {t e m c k sz : Nat} {x y : Operand} {ti te : TI} {A1 : Option Addr} {news xs : List Value} (B A L0 : Hl) (hL : L = B ++ (A ++ L0)) (hx : lk fr x = some v) (hy : lk fr y = some (.slice A1 m c)) (ht : tlook TT t = some ti) (hk : ti.kind = .sl e) (he : tlook TT e = some te) (hsz : te.size = sz)
    (hO : FL.Own e sz A v k xs) (hR : Row s A1 m sz news) (h63 : (k + m) * te.bytes ≤ 140737488355328 ∧ k + m ≤ 9223372036854775807) (hd : Nat.blt d n = true)
    (kk : ∀ v' A' s', Le D s s' → FL.Own e sz A' v' (k + m) (xs ++ news) → JO P TT D n ops Q rest ((d, v') :: fr) (B ++ (A' ++ L0)) s') :
    JO P TT D n ops Q (⟨some d, .call { callee := .builtin .append, args := #[x, y], argTypes := #[t, t] }, ty, pos, af, none⟩ :: rest) fr L s := fun hT a hr ho => by
  subst hL
  obtain ⟨v', A', s', h1, h2, h3⟩ := Ev_app (ty := ty) B A L0 hT hx hy ht hk he hsz hO hR h63 ho
  exact JO_ev hd h1 (kk v' A' s' h2 h3) hT a hr ho
theorem JB_app {i0 t e m c k sz : Nat} {g : Option (Nat × Bool)} {fuel : Nat} {listed : Array Bool} {x y : Operand} {ti te : TI} {A1 : Option Addr} {news xs : List Value} (hi0 : ops[i0]? = some ⟨some d, .call { callee := .builtin .append, args := #[x, y], argTypes := #[t, t] }, ty, pos, af, g⟩) (hgk : GOK ops fr g)
    (B A L0 : Hl) (hL : L = B ++ (A ++ L0)) (hx : lk fr x = some v) (hy : lk fr y = some (.slice A1 m c)) (ht : tlook TT t = some ti) (hk : ti.kind = .sl e) (he : tlook TT e = some te) (hsz : te.size = sz)
    (hO : FL.Own e sz A v k xs) (hR : Row s A1 m sz news) (h63 : (k + m) * te.bytes ≤ 140737488355328 ∧ k + m ≤ 9223372036854775807) (hd : Nat.blt d n = true) (hK : ∀ A', ∀ x ∈ K, x ∈ B ++ (A ++ L0) → x ∈ B ++ (A' ++ L0))
    (kk : ∀ v' A' s', Le D s s' → FL.Own e sz A' v' (k + m) (xs ++ news) → JA P TT D n ops Q K s0 fuel (listed.setIfInBounds i0 true) ((d, v') :: fr) (B ++ (A' ++ L0)) s') :
    JB P TT D n ops Q K s0 fuel listed i0 fr L s := fun hT a hr ho hl hKL => by
  subst hL
  obtain ⟨v', A', s', h1, h2, h3⟩ := Ev_app (ty := ty) B A L0 hT hx hy ht hk he hsz hO hR h63 ho
  exact JB_ev hi0 hgk h1 h2 (hK A') hd (kk v' A' s' h2 h3) hT a hr ho hl hKL
theorem AC.mid {f : FuncId} {args : List Value} {R : Value → Hl → World → Prop} (X M Y : Hl) (h : AC P D f args (M ++ (X ++ Y)) s (fun v L' s' => ∃ M', L' = M' ++ (X ++ Y) ∧ R v M' s')) :
    AC P D f args (X ++ (M ++ Y)) s (fun v L' s' => ∃ M', L' = X ++ (M' ++ Y) ∧ R v M' s') := by
  have hp : ∀ M' : Hl, (X ++ (M' ++ Y)).Perm (M' ++ (X ++ Y)) := fun M' => by
    rw [← List.append_assoc, ← List.append_assoc]
    exact (List.perm_append_comm).append_right Y
  refine ⟨h.1, fun ho => ?_⟩
  rw [fill_perm (hp M) _ ho]
  refine (h.2 (ho.perm (hp M))).mono ?_
  rintro e w' ⟨v, L', s', h1, rfl, h3, h4, M', rfl, h6⟩
  exact ⟨v, X ++ (M' ++ Y), s', h1, (fill_perm (hp M').symm _ h3), h3.perm (hp M').symm, h4, M', rfl, h6⟩
end
section
variable {P : Program} {TT : TyTab} {D n : Nat} {Q : APost} {fr : Fr} {L : Hl} {s : World}
theorem JC_loopX {γ : Type} {c : Code} (X : Hl) (S : γ → Fr) (H : γ → Hl) (I : γ → World → Prop) (μ : γ → Nat) (mono : ∀ g s s', I g s → Le D s s' → I g s') (g0 : γ)
    (hS : Keeps fr (S g0)) (hL : L = X ++ H g0) (hI : I g0 s)
    (round : ∀ g s, I g s → JC P TT D n (thenQ (fun fr' L' s' => ∃ g' A, Keeps fr' (S g') ∧ L' = A ++ (X ++ H g') ∧ I g' s' ∧ μ g' < μ g) Q) c (S g) (X ++ H g) s) :
    JC P TT D n Q (.loop c) fr L s := JC_loop S (fun g => X ++ H g) I μ mono g0 hS hL hI round
inductive Suf (fr : Fr) : Fr → Prop
  | refl : Suf fr fr
  | push {d : Nat} {v : Value} {fr' : Fr} (hd : (flook fr d).isNone = true) (h : Suf fr fr') : Suf fr ((d, v) :: fr')
theorem Sb {p : Prop} (h : p := by repeat (first | exact Suf.refl | refine Suf.push rfl ?_)) : p := h
theorem Suf.keeps {fr fr' : Fr} (h : Suf fr fr') : Keeps fr' fr := by
  induction h with
  | refl => exact fun _ _ h => h
  | @push d v fr' hd _ ih =>
    intro t u hu
    rw [flook_cons]
    by_cases he : d = t
    · subst he; rw [hu] at hd; cases hd
    · rw [if_neg he]; exact ih t u hu
def MidB (D : Nat) (s : World) (fr : Fr) (L : Hl) (t : Nat) (p : Prop) [Decidable p] : Fr → Hl → World → Prop := fun fr' L' s' => Le D s s' ∧ L' = L ∧ Keeps fr' ((t, .bool (decide p)) :: fr)
theorem MidB.mk {t : Nat} {p : Prop} [Decidable p] {fr' : Fr} {s' : World} {b : Bool} (hl : Le D s s') (hS : Suf fr fr') (ht : flook fr' t = some (.bool b)) (hb : b = decide p) : MidB D s fr L t p fr' L s' := by
  subst hb; exact ⟨hl, rfl, Keeps.cons ht hS.keeps⟩
theorem JC_cutB {x y : Code} (t : Nat) (p : Prop) [Decidable p] (h1 : JC P TT D n (thenQ (MidB D s fr L t p) Q) x fr L s)
    (h2 : ∀ s', Le D s s' → JC P TT D n Q y ((t, .bool (decide p)) :: fr) L s') : JC P TT D n Q (.seq x y) fr L s := fun ht a hr ho =>
  wp_seq (wp_mono (h1 ht a hr ho) fun e a w ⟨fr', L', s', k1, k2, k3, k4⟩ => by
    cases e with
    | normal =>
      subst k3
      obtain ⟨j1, j2, j3⟩ := k4
      subst j2
      exact h2 s' j1 ht a (k1.sub j3) k2
    | _ => exact ⟨fr', L', s', k1, k2, k3, k4⟩)
def Pub (M : Hl) (s : World) : Prop := ∀ b zs t, (b, cb zs t) ∈ M → CellsAt s b 0 zs
theorem AC.pubW {f : FuncId} {args : List Value} {R : Value → World → Prop} (h : AC P D f args L s (fun v L' s' => ∃ M', L' = M' ++ L ∧ ∀ s2, Le D s' s2 → Pub M' s2 → R v s2)) :
    AC P D f args L s (fun v L' s' => L = L' ∧ R v s') := by
  refine ⟨h.1, fun ho => (h.2 ho).mono ?_⟩
  rintro e w' ⟨v, L', s', h1, rfl, h3, h4, M', rfl, h6⟩
  obtain ⟨d1, d2, d3⟩ := drop_own h3
  refine ⟨v, L, fill M' s', h1, d1, d2, h4.trans d3, Z, h6 _ d3 fun b zs t hm j u hj => ?_⟩
  rw [mem_cell h3.left hm, Nat.zero_add]; exact hj
end
section
variable {P : Program} {TT : TyTab} {D n : Nat} {Q : APost} {fr : Fr} {L : Hl} {s : World} {ops : Array Oper} {rest : List Oper} {d ty : Nat} {pos : String} {af : Array Edge} {v : Value}
theorem Zqm {x : Operand} (hx : lk fr x = some v) (hd : Nat.blt d n = true) (k : JO P TT D n ops Q rest ((d, v) :: fr) L s) : JO P TT D n ops Q (⟨some d, .move x, ty, pos, af, none⟩ :: rest) fr L s := JO_q (QE_mv hx) hd k
theorem Zqa {x : Operand} (hx : lk fr x = some v) (hd : Nat.blt d n = true) (k : JO P TT D n ops Q rest ((d, v) :: fr) L s) : JO P TT D n ops Q (⟨some d, .assign x, ty, pos, af, none⟩ :: rest) fr L s := JO_q (QE_as hx) hd k
theorem Zqx {x : Operand} {i : Nat} {vs : List Value} (hx : lk fr x = some (.tuple vs.toArray)) (hi : nth vs i = some v) (hd : Nat.blt d n = true) (k : JO P TT D n ops Q rest ((d, v) :: fr) L s) : JO P TT D n ops Q (⟨some d, .extract x i, ty, pos, af, none⟩ :: rest) fr L s := JO_q (QE_ext hx hi) hd k
theorem ZqT {c x y : Operand} (hc : lk fr c = some (.bool true)) (hx : lk fr x = some v) (hd : Nat.blt d n = true) (k : JO P TT D n ops Q rest ((d, v) :: fr) L s) : JO P TT D n ops Q (⟨some d, .pick c x y, ty, pos, af, none⟩ :: rest) fr L s := JO_q (QE_pickT hc hx) hd k
theorem ZqF {c x y : Operand} (hc : lk fr c = some (.bool false)) (hx : lk fr y = some v) (hd : Nat.blt d n = true) (k : JO P TT D n ops Q rest ((d, v) :: fr) L s) : JO P TT D n ops Q (⟨some d, .pick c x y, ty, pos, af, none⟩ :: rest) fr L s := JO_q (QE_pickF hc hx) hd k
theorem Zqeq {x y : Operand} {ik : IntKind} {a b : Int} {t t' : Nat} (hx : lk fr x = some (.int ik a)) (hy : lk fr y = some (.int ik b)) (hd : Nat.blt d n = true) (k : JO P TT D n ops Q rest ((d, .bool (decide (a = b))) :: fr) L s) : JO P TT D n ops Q (⟨some d, .binOp .eql t x y t', ty, pos, af, none⟩ :: rest) fr L s := JO_q (QE_eq hx hy) hd k
theorem Zqne {x y : Operand} {ik : IntKind} {a b : Int} {t t' : Nat} (hx : lk fr x = some (.int ik a)) (hy : lk fr y = some (.int ik b)) (hd : Nat.blt d n = true) (k : JO P TT D n ops Q rest ((d, .bool (!decide (a = b))) :: fr) L s) : JO P TT D n ops Q (⟨some d, .binOp .neq t x y t', ty, pos, af, none⟩ :: rest) fr L s := JO_q (QE_ne hx hy) hd k
theorem Zqlt {x y : Operand} {ik : IntKind} {a b : Int} {t t' : Nat} (hx : lk fr x = some (.int ik a)) (hy : lk fr y = some (.int ik b)) (hd : Nat.blt d n = true) (k : JO P TT D n ops Q rest ((d, .bool (decide (a < b))) :: fr) L s) : JO P TT D n ops Q (⟨some d, .binOp .lss t x y t', ty, pos, af, none⟩ :: rest) fr L s := JO_q (QE_lt hx hy) hd k
theorem Zqle {x y : Operand} {ik : IntKind} {a b : Int} {t t' : Nat} (hx : lk fr x = some (.int ik a)) (hy : lk fr y = some (.int ik b)) (hd : Nat.blt d n = true) (k : JO P TT D n ops Q rest ((d, .bool (decide (a ≤ b))) :: fr) L s) : JO P TT D n ops Q (⟨some d, .binOp .leq t x y t', ty, pos, af, none⟩ :: rest) fr L s := JO_q (QE_le hx hy) hd k
theorem Zqgt {x y : Operand} {ik : IntKind} {a b : Int} {t t' : Nat} (hx : lk fr x = some (.int ik a)) (hy : lk fr y = some (.int ik b)) (hd : Nat.blt d n = true) (k : JO P TT D n ops Q rest ((d, .bool (decide (b < a))) :: fr) L s) : JO P TT D n ops Q (⟨some d, .binOp .gtr t x y t', ty, pos, af, none⟩ :: rest) fr L s := JO_q (QE_gt hx hy) hd k
theorem Zqge {x y : Operand} {ik : IntKind} {a b : Int} {t t' : Nat} (hx : lk fr x = some (.int ik a)) (hy : lk fr y = some (.int ik b)) (hd : Nat.blt d n = true) (k : JO P TT D n ops Q rest ((d, .bool (decide (b ≤ a))) :: fr) L s) : JO P TT D n ops Q (⟨some d, .binOp .geq t x y t', ty, pos, af, none⟩ :: rest) fr L s := JO_q (QE_ge hx hy) hd k
theorem Zqse {x y : Operand} {a b : List UInt8} {t t' : Nat} (hx : lk fr x = some (St a)) (hy : lk fr y = some (St b)) (hd : Nat.blt d n = true) (k : JO P TT D n ops Q rest ((d, .bool (decide (a = b))) :: fr) L s) : JO P TT D n ops Q (⟨some d, .binOp .eql t x y t', ty, pos, af, none⟩ :: rest) fr L s := JO_q (QE_seq hx hy) hd k
theorem Zqsn {x y : Operand} {a b : List UInt8} {t t' : Nat} (hx : lk fr x = some (St a)) (hy : lk fr y = some (St b)) (hd : Nat.blt d n = true) (k : JO P TT D n ops Q rest ((d, .bool (!decide (a = b))) :: fr) L s) : JO P TT D n ops Q (⟨some d, .binOp .neq t x y t', ty, pos, af, none⟩ :: rest) fr L s := JO_q (QE_sne hx hy) hd k
theorem ZqnT {x : Operand} {t : Nat} (hx : lk fr x = some (.bool true)) (hd : Nat.blt d n = true) (k : JO P TT D n ops Q rest ((d, .bool false) :: fr) L s) : JO P TT D n ops Q (⟨some d, .unOp .not t x, ty, pos, af, none⟩ :: rest) fr L s := JO_q (QE_notT hx) hd k
theorem ZqnF {x : Operand} {t : Nat} (hx : lk fr x = some (.bool false)) (hd : Nat.blt d n = true) (k : JO P TT D n ops Q rest ((d, .bool true) :: fr) L s) : JO P TT D n ops Q (⟨some d, .unOp .not t x, ty, pos, af, none⟩ :: rest) fr L s := JO_q (QE_notF hx) hd k
theorem Zqno {x : Operand} {b : Bool} {t : Nat} (hx : lk fr x = some (.bool b)) (hd : Nat.blt d n = true) (k : JO P TT D n ops Q rest ((d, .bool (!b)) :: fr) L s) : JO P TT D n ops Q (⟨some d, .unOp .not t x, ty, pos, af, none⟩ :: rest) fr L s := JO_q (QE_not hx) hd k
theorem Zqls {x : Operand} {t : Nat} {A : Option Addr} {m c : Nat} {ti : TI} {e : Nat} (hx : lk fr x = some (.slice A m c)) (ht : tlook TT t = some ti) (hk : ti.kind = .sl e) (hd : Nat.blt d n = true) (k : JO P TT D n ops Q rest ((d, .int .i64 (m : Int)) :: fr) L s) : JO P TT D n ops Q (⟨some d, .call { callee := .builtin .len, args := #[x], argTypes := #[t] }, ty, pos, af, none⟩ :: rest) fr L s := JO_q (QE_lenS hx ht hk) hd k
theorem Ws {x : Operand} {t : Nat} {A : Option Addr} {m c : Nat} {ti : TI} {e : Nat} (hY : (lk fr x = some (.slice A m c)) ∧ (tlook TT t = some ti) ∧ (ti.kind = .sl e) ∧ (Nat.blt d n = true)) (k : JO P TT D n ops Q rest ((d, .int .i64 (m : Int)) :: fr) L s) : JO P TT D n ops Q (⟨some d, .call { callee := .builtin .len, args := #[x], argTypes := #[t] }, ty, pos, af, none⟩ :: rest) fr L s := Zqls hY.1 hY.2.1 hY.2.2.1 hY.2.2.2 k
theorem Zqlt2 {x : Operand} {t : Nat} {l : List UInt8} {ti : TI} (hx : lk fr x = some (St l)) (ht : tlook TT t = some ti) (hk : ti.desc = .string) (hd : Nat.blt d n = true) (k : JO P TT D n ops Q rest ((d, .int .i64 (l.length : Int)) :: fr) L s) : JO P TT D n ops Q (⟨some d, .call { callee := .builtin .len, args := #[x], argTypes := #[t] }, ty, pos, af, none⟩ :: rest) fr L s := JO_q (QE_lenT hx ht hk) hd k
theorem Zqni {x : Operand} {a : Addr} (hx : lk fr x = some (.pointer (some a))) (hd : Nat.blt d n = true) (k : JO P TT D n ops Q rest ((d, .pointer (some a)) :: fr) L s) : JO P TT D n ops Q (⟨some d, .nilCheck x, ty, pos, af, none⟩ :: rest) fr L s := JO_q (QE_nil hx) hd k
theorem Zqf0 {t f b off : Nat} {x : Operand} {ti : TI} {os : List Nat} (hx : lk fr x = some (.pointer (some ⟨b, off, none⟩))) (ht : tlook TT t = some ti) (hk : ti.kind = .st os) (hf : nthN os f = some 0) (hd : Nat.blt d n = true) (k : JO P TT D n ops Q rest ((d, .pointer (some ⟨b, off, none⟩)) :: fr) L s) : JO P TT D n ops Q (⟨some d, .fieldAddr t x f, ty, pos, af, none⟩ :: rest) fr L s := JO_q (QE_fa0 hx ht hk hf) hd k
theorem W0 {t f b off : Nat} {x : Operand} {ti : TI} {os : List Nat} (hY : (lk fr x = some (.pointer (some ⟨b, off, none⟩))) ∧ (tlook TT t = some ti) ∧ (ti.kind = .st os) ∧ (nthN os f = some 0) ∧ (Nat.blt d n = true)) (k : JO P TT D n ops Q rest ((d, .pointer (some ⟨b, off, none⟩)) :: fr) L s) : JO P TT D n ops Q (⟨some d, .fieldAddr t x f, ty, pos, af, none⟩ :: rest) fr L s := Zqf0 hY.1 hY.2.1 hY.2.2.1 hY.2.2.2.1 hY.2.2.2.2 k
theorem ZqfB {t f fo b : Nat} {x : Operand} {ti : TI} {os : List Nat} (hx : lk fr x = some (.pointer (some ⟨b, 0, none⟩))) (ht : tlook TT t = some ti) (hk : ti.kind = .st os) (hf : nthN os f = some fo) (hd : Nat.blt d n = true) (k : JO P TT D n ops Q rest ((d, .pointer (some ⟨b, fo, none⟩)) :: fr) L s) : JO P TT D n ops Q (⟨some d, .fieldAddr t x f, ty, pos, af, none⟩ :: rest) fr L s := JO_q (QE_faB hx ht hk hf) hd k
theorem Wb {t f fo b : Nat} {x : Operand} {ti : TI} {os : List Nat} (hY : (lk fr x = some (.pointer (some ⟨b, 0, none⟩))) ∧ (tlook TT t = some ti) ∧ (ti.kind = .st os) ∧ (nthN os f = some fo) ∧ (Nat.blt d n = true)) (k : JO P TT D n ops Q rest ((d, .pointer (some ⟨b, fo, none⟩)) :: fr) L s) : JO P TT D n ops Q (⟨some d, .fieldAddr t x f, ty, pos, af, none⟩ :: rest) fr L s := ZqfB hY.1 hY.2.1 hY.2.2.1 hY.2.2.2.1 hY.2.2.2.2 k
theorem Zql {t b off : Nat} {x : Operand} {ti : TI} {t' : Nat} {zs : List Value} (i : Nat) (hx : lk fr x = some (.pointer (some ⟨b, off, none⟩))) (hi : L[i]? = some (b, cb zs t')) (ht : tlook TT t = some ti) (hk : isOne ti.kind = true) (hv : nth zs off = some v) (hd : Nat.blt d n = true) (k : JO P TT D n ops Q rest ((d, v) :: fr) L s) : JO P TT D n ops Q (⟨some d, .load t x, ty, pos, af, none⟩ :: rest) fr L s := JO_q (QE_ld1 i hx hi ht hk hv) hd k
theorem Wl {t b off : Nat} {x : Operand} {ti : TI} {t' : Nat} {zs : List Value} (i : Nat) (hY : (lk fr x = some (.pointer (some ⟨b, off, none⟩))) ∧ (L[i]? = some (b, cb zs t')) ∧ (tlook TT t = some ti) ∧ (isOne ti.kind = true) ∧ (nth zs off = some v) ∧ (Nat.blt d n = true)) (k : JO P TT D n ops Q rest ((d, v) :: fr) L s) : JO P TT D n ops Q (⟨some d, .load t x, ty, pos, af, none⟩ :: rest) fr L s := Zql i hY.1 hY.2.1 hY.2.2.1 hY.2.2.2.1 hY.2.2.2.2.1 hY.2.2.2.2.2 k
theorem Zqadd {x y : Operand} {ik : IntKind} {a b c : Int} {t t' : Nat} (hx : lk fr x = some (.int ik a)) (hy : lk fr y = some (.int ik b)) (hd : Nat.blt d n = true) (hc : ik.wrap (a + b) = c) (k : JO P TT D n ops Q rest ((d, .int ik c) :: fr) L s) : JO P TT D n ops Q (⟨some d, .binOp .add t x y t', ty, pos, af, none⟩ :: rest) fr L s := JO_q (QE_add' hx hy hc) hd k
theorem Zqsub {x y : Operand} {ik : IntKind} {a b c : Int} {t t' : Nat} (hx : lk fr x = some (.int ik a)) (hy : lk fr y = some (.int ik b)) (hd : Nat.blt d n = true) (hc : ik.wrap (a - b) = c) (k : JO P TT D n ops Q rest ((d, .int ik c) :: fr) L s) : JO P TT D n ops Q (⟨some d, .binOp .sub t x y t', ty, pos, af, none⟩ :: rest) fr L s := JO_q (QE_sub' hx hy hc) hd k
theorem Zqmul {x y : Operand} {ik : IntKind} {a b c : Int} {t t' : Nat} (hx : lk fr x = some (.int ik a)) (hy : lk fr y = some (.int ik b)) (hd : Nat.blt d n = true) (hc : ik.wrap (a * b) = c) (k : JO P TT D n ops Q rest ((d, .int ik c) :: fr) L s) : JO P TT D n ops Q (⟨some d, .binOp .mul t x y t', ty, pos, af, none⟩ :: rest) fr L s := JO_q (QE_mul' hx hy hc) hd k
end
abbrev Zs := @JC_seq
abbrev Zr := @JC_region
abbrev Zn := @JO_nil
abbrev Zt := @thenQ_n
abbrev Zu := @thenQ_r
abbrev Zv := @thenQ_x
abbrev Zb := @blockQ_n
abbrev Zc := @blockQ_r
abbrev Zd := @blockQ_x
abbrev Zk := @JC_skip
abbrev Zl := @JC_exit
abbrev Zo := @JC_ret
abbrev Zp := @JC_block
abbrev Zy := @JC_ifT
abbrev Zz := @JC_ifF
abbrev Zg := @JO_gT
abbrev Zf := @JO_gF
abbrev Zh := @JO_gU
theorem Nt {P : Program} {TT : TyTab} {D n : Nat} {Q : APost} {fr : Fr} {L : Hl} {s : World} {J : Fr → Hl → World → Prop} {ops : Array Oper} (h : J fr L s) : JO P TT D n ops (thenQ J Q) [] fr L s := JO_nil (thenQ_n h)
theorem Sr {P : Program} {TT : TyTab} {D n : Nat} {Q : APost} {fr : Fr} {L : Hl} {s : World} {id : Nat} {l : List Oper} {y : Code} (h : JO P TT D n l.toArray (thenQ (JC P TT D n Q y) Q) l fr L s) : JC P TT D n Q (.seq (.region id l.toArray false) y) fr L s := JC_seq (JC_region h)
theorem At {P : Program} {TT : TyTab} {D n : Nat} {Q : APost} {fr : Fr} {L : Hl} {s : World} {J : Fr → Hl → World → Prop} {ops : Array Oper} {d ty : Nat} {pos : String} {af : Array Edge} {v : Value} {x : Operand} (hx : lk fr x = some v) (hd : Nat.blt d n = true) (h : J ((d, v) :: fr) L s) : JO P TT D n ops (thenQ J Q) [⟨some d, .assign x, ty, pos, af, none⟩] fr L s := Zqa hx hd (Nt h)
theorem kp {fr l : Fr} (h : Keeps fr l := by repeat (first | exact Keeps.nil _ | refine Keeps.cons rfl ?_)) : Keeps fr l := h
section
variable {P : Program} {TT : TyTab} {D n : Nat} {Q : APost} {fr : Fr} {L K : Hl} {s s0 : World} {ops : Array Oper} {d ty : Nat} {op : Op} {pos : String} {af : Array Edge} {v : Value} {fuel : Nat} {listed : Array Bool}
def okA (ops : Array Oper) (listed : Array Bool) (i : Nat) : Bool := Region.noSelect ops && Region.free .any ops listed i && (Region.ready .any ops listed).contains i
theorem za (i : Nat) (hi : ops[i]? = some ⟨some d, op, ty, pos, af, none⟩) (hq : QE P TT D fr op ty K s0 v) (hd : Nat.blt d n = true) (k : JA P TT D n ops Q K s0 fuel (listed.setIfInBounds i true) ((d, v) :: fr) L s) (hs : okA ops listed i = true := by kernel_rfl) : JA P TT D n ops Q K s0 (fuel + 1) listed fr L s := by
  simp only [okA, Bool.and_eq_true] at hs
  exact JA_q i hi hs.1.1 hs.1.2 hs.2 trivial hq hd k
theorem zg (i : Nat) {e : Nat × Bool} (hi : ops[i]? = some ⟨some d, op, ty, pos, af, some e⟩) (hg : GOK ops fr (some e)) (hq : QE P TT D fr op ty K s0 v) (hd : Nat.blt d n = true) (k : JA P TT D n ops Q K s0 fuel (listed.setIfInBounds i true) ((d, v) :: fr) L s) (hs : okA ops listed i = true := by kernel_rfl) : JA P TT D n ops Q K s0 (fuel + 1) listed fr L s := by
  simp only [okA, Bool.and_eq_true] at hs
  exact JA_q i hi hs.1.1 hs.1.2 hs.2 hg hq hd k
theorem zn (i : Nat) {j t : Nat} {w b : Bool} (hi : ops[i]? = some ⟨some d, op, ty, pos, af, some (j, w)⟩) (hj : gslot ops j = some t) (hv : flook fr t = some (.bool b)) (hb : (b != w) = true) (hd : Nat.blt d n = true) (k : JA P TT D n ops Q K s0 fuel (listed.setIfInBounds i true) ((d, undef) :: fr) L s) (hs : okA ops listed i = true := by kernel_rfl) : JA P TT D n ops Q K s0 (fuel + 1) listed fr L s := by
  simp only [okA, Bool.and_eq_true] at hs
  exact JA_no i hi hs.1.1 hs.1.2 hs.2 hj hv hb hd k
end
end Go.FL
namespace Go.Proofs.YtiljephghfngnaaGreatDoor
open Go.FL
attribute [local irreducible] JC JO JA JB thenQ blockQ retQ AC fill CellsAt QE Ev Mid
theorem in_ac (D : Nat) (L : Hl) (s : World) (x lo hi : Int) : AC Tryz.prog D 19 [.int .i64 x, .int .i64 lo, .int .i64 hi] L s fun v L' _ => v = .bool (decide (lo ≤ x ∧ x ≤ hi)) ∧ L = L' := by
 refine AC_enter (TT := TT) (fn := Tryz.f19) TT_ok Tryz.func19 V Z Tryz.ntmps19 Z (rs := [.tmp 6]) Z [(0, _), (1, _), (2, _)] Z <| Sr <| At Z Z <| Sr <| Zqm Z Z <| Zqm Z Z <| Zqge Z Z Z <| Zqm Z Z <| ?_
 refine JO_caseD (t := 10) Z (fun c1 => ?_) (fun c1 => ?_)
 ·
  refine Zg Z Z <| Zqm Z Z <| Zg Z Z <| Zqm Z Z <| Zg Z Z <| Zqle Z Z Z <| ZqT Z Z Z <| At Z Z <| Zo <| ?_
  refine retQ_mk [] L (.inr Z) (.tmp Z (.nil)) Z (Lr D) (fun sR hS2 => ?_)
  exact ⟨by simp [resV, *], rfl⟩
 refine Wf Y4 <| Wf Y4 <| Wf Y4 <| ZqF Z Z Z <| At Z Z <| Zo <| ?_
 refine retQ_mk [] L (.inr Z) (.tmp Z (.nil)) Z (Lr D) (fun sR hS2 => ?_)
 exact ⟨by simp [resV, *], rfl⟩
theorem at_ac (D : Nat) (L : Hl) (s : World) (c i : Int) : AC Tryz.prog D 20 [.int .i64 c, .int .i64 i] L s fun v L' _ => v = .agg #[.int .i64 c, .int .i64 i] ∧ L = L' := by
 refine AC_enter (TT := TT) (fn := Tryz.f20) TT_ok Tryz.func20 V Z Tryz.ntmps20 Z (rs := [.cell 4 27]) Z [(0, _), (1, _)] Z <| Sr <| JO_allocZ Z [_, _] Z Z ?_
 intro β1 s1 h1
 refine Nt <| Sr <| Zqm Z Z <| Zqm Z Z <| JO_q (QE_build [(_, _), (_, _)] [_, _] Z Z Z Z Z Z) Z <| Wt 0 [_, _] Y9 <| Nt <| Zo <| ?_
 refine retQ_mk [_] L (.inr Z) (.agg (us := [_, _]) 0 Z Z Z Z Z (.nil)) Z h1 (fun sR hS2 => ?_)
 exact ⟨rfl, rfl⟩
theorem isName_ac (D : Nat) (L : Hl) (s : World) (l : List UInt8) (m : Int) (hl : l.length ≤ 9223372036854775807) : AC Tryz.prog D 77 [St l, .int .i64 m] L s fun v L' _ => v = .bool (decide (l ≠ []) && decide ((l.length : Int) ≤ m) && charsFrom 0 l) ∧ L = L' := by
 refine AC_enter (TT := TT) (fn := Tryz.f77) TT_ok Tryz.func77 V Z Tryz.ntmps77 Z (rs := [.tmp 4]) Z [(0, _), (1, _)] Z <| Sr <| At Z Z <| Zs <| Sr <| Zqm Z Z <| Zqlt2 Z Z Z Z <| Zqlt Z Z Z <| Zqm Z Z <| ?_
 refine JO_caseD (t := 11) Z (fun c1 => ?_) (fun c1 => ?_)
 ·
  refine Wf Y4 <| Wf Y4 <| Wf Y4 <| Wf Y4 <| ZqT Z Z Z <| Nt <| Zy Z <| Sr <| At Z Z <| Zo <| Zu <| ?_
  refine retQ_mk [] L (.inr Z) (.tmp Z (.nil)) Z (Lr D) (fun sR hS2 => ?_)
  refine ⟨?_, Z⟩
  have hnil : l = [] ↔ l.length = 0 := by cases l <;> simp
  have h0 : l = [] := by rw [hnil]; omega
  simp [resV, h0]; done
 refine Zg Z Z <| Zqm Z Z <| Zg Z Z <| Zqlt2 Z Z Z Z <| Zg Z Z <| Zqm Z Z <| Zg Z Z <| Zqgt Z Z Z <| ZqF Z Z Z <| Nt <| ?_
 refine JC_ifD Z (fun c2 => ?_) (fun c2 => ?_)
 ·
  refine Sr <| At Z Z <| Zo <| Zu <| ?_
  refine retQ_mk [] L (.inr Z) (.tmp Z (.nil)) Z (Lr D) (fun sR hS2 => ?_)
  refine ⟨?_, Z⟩
  have hnil : l = [] ↔ l.length = 0 := by cases l <;> simp
  have h0 : ¬ (l.length : Int) ≤ m := by omega
  simp [resV, h0]; done
 refine Zk <| Zt <| Zs <| Sr <| At Z Z <| Zp <| JC_loop (γ := Nat) (fun k => [(0, _), (4, _), (5, .int .i64 (k : Int))]) (fun _ => _) (fun k tw => Le D s tw ∧ (k ≤ l.length ∧ ∀ i c, i < k → l[i]? = some c → chOK i c = true)) (fun k => l.length - k) (fun _ _ _ h hl => ⟨h.1.trans hl, h.2⟩) 0 (.cons Z (.cons Z (.cons Z (.nil _)))) Z ⟨Le.refl _, ⟨Nat.zero_le _, fun i c hi => by omega⟩⟩ ?_
 intro k s3 I3
 have hk0 := I3.2.1
 have hI := I3.2.2
 refine Zs <| Sr <| Zqm Z Z <| Zqm Z Z <| Zqlt2 Z Z Z Z <| Zqlt Z Z Z <| Nt <| ?_
 refine JC_ifD Z (fun c4 => ?_) (fun c4 => ?_)
 ·
  have hk : k < l.length := by omega
  obtain ⟨ch, hch⟩ : ∃ ch, l[k]? = some ch := ⟨_, List.getElem?_eq_getElem hk⟩
  refine Zk <| Zt <| Zs <| Zp <| Sr <| Zqm Z Z <| Zqm Z Z <| JO_q (QE_ix Z Z Z Z hch) Z <| Zqge Z Z Z <| Zqm Z Z <| ?_
  refine JO_caseD (t := 27) Z (fun c5 => ?_) (fun c5 => ?_)
  ·
   refine Zg Z Z <| Zqm Z Z <| Zg Z Z <| Zqm Z Z <| Zg Z Z <| JO_q (QE_ix Z Z Z Z hch) Z <| Zg Z Z <| Zqle Z Z Z <| ZqT Z Z Z <| At Z Z <| Sr <| Zqm Z Z <| Zqm Z Z <| JO_q (QE_ix Z Z Z Z hch) Z <| Zqge Z Z Z <| Zqm Z Z <| ?_
   refine JO_caseD (t := 37) Z (fun c6 => ?_) (fun c6 => ?_)
   ·
    refine Zg Z Z <| Zqm Z Z <| Zg Z Z <| Zqm Z Z <| Zg Z Z <| JO_q (QE_ix Z Z Z Z hch) Z <| Zg Z Z <| Zqle Z Z Z <| ZqT Z Z Z <| At Z Z <| Sr <| Zqm Z Z <| Zqno Z Z <| Zqm Z Z <| ?_
    refine JO_caseN (t := 45) Z (fun c7 => ?_) (fun c7 => ?_)
    ·
     refine Zg Z Z <| Zqm Z Z <| Zg Z Z <| Zqm Z Z <| ?_
     refine JO_caseD (t := 47) Z (fun c8 => ?_) (fun c8 => ?_)
     ·
      refine Zg Z Z <| Zqm Z Z <| Zg Z Z <| Zqgt Z Z Z <| Zg Z Z <| ZqT Z Z Z <| Zg Z Z <| Zqno Z Z <| ZqT Z Z Z <| Nt <| ?_
      refine JC_ifN Z (fun c9 => ?_) (fun c9 => ?_)
      ·
       refine Sr <| At Z Z <| Zo <| Zc <| Zu <| Zu <| Zc <| Zu <| ?_
       refine retQ_mk [] L (.inr Z) (.tmp Z (.nil)) Z I3.1 (fun sR hS2 => ?_)
       refine ⟨?_, Z⟩
       have hnil : l = [] ↔ l.length = 0 := by cases l <;> simp
       have h0 : l = [] := by rw [hnil]; omega
       simp [resV, h0]; done
      refine Zk <| Zb <| Zt <| Zr <| Zqm Z Z <| Zqadd Z Z Z (w64 O O) <| Zqa Z Z <| Zn <| ?_
      have hOK : chOK k ch = true := by simp only [chOK, letB, digB, Bool.or_eq_true, Bool.and_eq_true, decide_eq_true_eq, ne_eq]; omega
      refine thenQ_n ⟨(k + 1), [], kp, Z, ⟨I3.1, ⟨by omega, below_succ hI hch hOK⟩⟩, O⟩
     refine Wf Y4 <| Wf Y4 <| Zg Z Z <| ZqF Z Z Z <| Zg Z Z <| ZqnF Z Z <| ZqT Z Z Z <| Nt <| Zy Z <| Sr <| At Z Z <| Zo <| Zc <| Zu <| Zu <| Zc <| Zu <| ?_
     refine retQ_mk [] L (.inr Z) (.tmp Z (.nil)) Z I3.1 (fun sR hS2 => ?_)
     refine ⟨?_, Z⟩
     have hnil : l = [] ↔ l.length = 0 := by cases l <;> simp
     have hb : chOK k ch = false := by
       rw [Bool.eq_false_iff]; simp only [chOK, letB, digB, Bool.or_eq_true, Bool.and_eq_true, decide_eq_true_eq, ne_eq]; omega
     simp [resV, chars_not hch hb]; done
    refine Wf Y4 <| Wf Y4 <| Zh Z Z Z <| Zh Z Z Z <| Wf Y4 <| Wf Y4 <| ZqF Z Z Z <| Nt <| Zz Z <| Zk <| Zb <| Zt <| Zr <| Zqm Z Z <| Zqadd Z Z Z (w64 O O) <| Zqa Z Z <| Zn <| ?_
    have hOK : chOK k ch = true := by simp only [chOK, letB, digB, Bool.or_eq_true, Bool.and_eq_true, decide_eq_true_eq, ne_eq]; omega
    refine thenQ_n ⟨(k + 1), [], kp, Z, ⟨I3.1, ⟨by omega, below_succ hI hch hOK⟩⟩, O⟩
   refine Wf Y4 <| Wf Y4 <| Wf Y4 <| Wf Y4 <| ZqF Z Z Z <| At Z Z <| Sr <| Zqm Z Z <| Zqno Z Z <| Zqm Z Z ?_
   refine JO_caseN (t := 45) Z (fun c10 => ?_) (fun c10 => ?_)
   ·
    refine Zg Z Z <| Zqm Z Z <| Zg Z Z <| Zqm Z Z <| Wf Y4 <| Wf Y4 <| Zg Z Z <| ZqF Z Z Z <| Zg Z Z <| ZqnF Z Z <| ZqT Z Z Z <| Nt <| Zy Z <| Sr <| At Z Z <| Zo <| Zc <| Zu <| Zu <| Zc <| Zu ?_
    refine retQ_mk [] L (.inr Z) (.tmp Z (.nil)) Z I3.1 (fun sR hS2 => ?_)
    refine ⟨?_, Z⟩
    have hnil : l = [] ↔ l.length = 0 := by cases l <;> simp
    have h0 : l = [] := by rw [hnil]; omega
    simp [resV, h0]; done
   refine Wf Y4 <| Wf Y4 <| Zh Z Z Z <| Zh Z Z Z <| Wf Y4 <| Wf Y4 <| ZqF Z Z Z <| Nt <| Zz Z <| Zk <| Zb <| Zt <| Zr <| Zqm Z Z <| Zqadd Z Z Z (w64 O O) <| Zqa Z Z <| Zn <| ?_
   have hOK : chOK k ch = true := by simp only [chOK, letB, digB, Bool.or_eq_true, Bool.and_eq_true, decide_eq_true_eq, ne_eq]; omega
   refine thenQ_n ⟨(k + 1), [], kp, Z, ⟨I3.1, ⟨by omega, below_succ hI hch hOK⟩⟩, O⟩
  refine Wf Y4 <| Wf Y4 <| Wf Y4 <| Wf Y4 <| ZqF Z Z Z <| At Z Z <| Sr <| Zqm Z Z <| Zqm Z Z <| JO_q (QE_ix Z Z Z Z hch) Z <| Zqge Z Z Z <| Zqm Z Z <| ?_
  refine JO_caseD (t := 37) Z (fun c11 => ?_) (fun c11 => ?_)
  ·
   refine Zg Z Z <| Zqm Z Z <| Zg Z Z <| Zqm Z Z <| Zg Z Z <| JO_q (QE_ix Z Z Z Z hch) Z <| Zg Z Z <| Zqle Z Z Z <| ZqT Z Z Z <| At Z Z <| Sr <| Zqm Z Z <| ZqnF Z Z <| Zqm Z Z <| Zg Z Z <| Zqm Z Z <| Zg Z Z <| Zqm Z Z <| ?_
   refine JO_caseD (t := 47) Z (fun c12 => ?_) (fun c12 => ?_)
   ·
    refine Zg Z Z <| Zqm Z Z <| Zg Z Z <| Zqgt Z Z Z <| Zg Z Z <| ZqT Z Z Z <| Zg Z Z <| Zqno Z Z <| ZqT Z Z Z <| Nt <| ?_
    refine JC_ifN Z (fun c13 => ?_) (fun c13 => ?_)
    ·
     refine Sr <| At Z Z <| Zo <| Zc <| Zu <| Zu <| Zc <| Zu <| ?_
     refine retQ_mk [] L (.inr Z) (.tmp Z (.nil)) Z I3.1 (fun sR hS2 => ?_)
     refine ⟨?_, Z⟩
     have hnil : l = [] ↔ l.length = 0 := by cases l <;> simp
     have hb : chOK k ch = false := by
       rw [Bool.eq_false_iff]; simp only [chOK, letB, digB, Bool.or_eq_true, Bool.and_eq_true, decide_eq_true_eq, ne_eq]; omega
     simp [resV, chars_not hch hb]; done
    refine Zk <| Zb <| Zt <| Zr <| Zqm Z Z <| Zqadd Z Z Z (w64 O O) <| Zqa Z Z <| Zn <| ?_
    have hOK : chOK k ch = true := by simp only [chOK, letB, digB, Bool.or_eq_true, Bool.and_eq_true, decide_eq_true_eq, ne_eq]; omega
    refine thenQ_n ⟨(k + 1), [], kp, Z, ⟨I3.1, ⟨by omega, below_succ hI hch hOK⟩⟩, O⟩
   refine Wf Y4 <| Wf Y4 <| Zg Z Z <| ZqF Z Z Z <| Zg Z Z <| ZqnF Z Z <| ZqT Z Z Z <| Nt <| Zy Z <| Sr <| At Z Z <| Zo <| Zc <| Zu <| Zu <| Zc <| Zu <| ?_
   refine retQ_mk [] L (.inr Z) (.tmp Z (.nil)) Z I3.1 (fun sR hS2 => ?_)
   refine ⟨?_, Z⟩
   have hnil : l = [] ↔ l.length = 0 := by cases l <;> simp
   have hb : chOK k ch = false := by
     rw [Bool.eq_false_iff]; simp only [chOK, letB, digB, Bool.or_eq_true, Bool.and_eq_true, decide_eq_true_eq, ne_eq]; omega
   simp [resV, chars_not hch hb]; done
  refine Wf Y4 <| Wf Y4 <| Wf Y4 <| Wf Y4 <| ZqF Z Z Z <| At Z Z <| Sr <| Zqm Z Z <| ZqnF Z Z <| Zqm Z Z <| Zg Z Z <| Zqm Z Z <| Zg Z Z <| Zqm Z Z <| Wf Y4 <| Wf Y4 <| Zg Z Z <| ZqF Z Z Z <| Zg Z Z <| ZqnF Z Z <| ZqT Z Z Z <| Nt <| Zy Z <| Sr <| At Z Z <| Zo <| Zc <| Zu <| Zu <| Zc <| Zu <| ?_
  refine retQ_mk [] L (.inr Z) (.tmp Z (.nil)) Z I3.1 (fun sR hS2 => ?_)
  refine ⟨?_, Z⟩
  have hnil : l = [] ↔ l.length = 0 := by cases l <;> simp
  have hb : chOK k ch = false := by
    rw [Bool.eq_false_iff]; simp only [chOK, letB, digB, Bool.or_eq_true, Bool.and_eq_true, decide_eq_true_eq, ne_eq]; omega
  simp [resV, chars_not hch hb]; done
 refine Zl <| Zv <| Zv <| Zd <| Zt <| Sr <| At Z Z <| Zo <| ?_
 refine retQ_mk [] L (.inr Z) (.tmp Z (.nil)) Z I3.1 (fun sR hS2 => ?_)
 refine ⟨?_, Z⟩
 have hnil : l = [] ↔ l.length = 0 := by cases l <;> simp
 have hb := chars_all (fun i c hi hc => hI i c O hc)
 have h6 : (l.length : Int) ≤ m := by omega
 have h0 : ¬ l = [] := by rw [hnil]; omega
 simp [resV, hb, h6, h0]; done
end Go.Proofs.YtiljephghfngnaaGreatDoor
namespace Go.FL
open Go Go.RowKit Go.Proofs.YtiljephghfngnaaGreatDoor
theorem bytes_fold (l : List UInt8) (r : ByteArray) : (l.map (fun x => (x.toNat : Int))).foldl (fun r n => r.push (UInt8.ofNat n.toNat)) r = ⟨r.data ++ l.toArray⟩ := by
  induction l generalizing r with
  | nil => cases r; simp
  | cons x l ih =>
    simp only [List.map_cons, List.foldl_cons, ih]
    apply ByteArray.ext
    simp [ByteArray.push]
theorem QE_b2s {P : Program} {TT : TyTab} {D : Nat} {fr : Fr} {ty : Nat} {K : Hl} {s0 : World} {x : Operand} {t t' e : Nat} {A : Option Addr} {n c : Nat} {l : List UInt8} {ti ti' te : TI} (hx : lk fr x = some (.slice A n c)) (ht : tlook TT t = some ti) (hk : ti.kind = .sl e) (he : tlook TT e = some te) (hke : te.desc = .int .u8)
    (ht' : tlook TT t' = some ti') (hk' : ti'.desc = .string) (h : Bts s0 A n c l) : QE P TT D fr (.convert t t' x) ty K s0 (St l) := fun hT dst pos af g ρ hρ L s ho hl _ => by
  obtain ⟨k1, k2, _⟩ := hT.at_ ht
  rw [hk] at k2
  simp only [TK.fits] at k2
  rw [k2] at k1
  have k3 := (hT.at_ he).1
  rw [hke] at k3
  have k4 := (hT.at_ ht').1
  rw [hk'] at k4
  have hc := run_convert_bytes_string (P := P) (fill L s) t t' e A n c k1 k3 k4
  simp only [execOp, hρ x _ hx, Sem.run_bind, hc]
  cases A with
  | none =>
    have : l = [] := by
      cases l with
      | nil => rfl
      | cons y l => obtain ⟨b, off, cs, h1, _⟩ := h.2.2.2 0 y rfl; cases h1
    subst this
    simp [Conv.bytesToString]
    rfl
  | some a =>
    have hcells : ∀ j v, (l.map (fun x => Value.int .u8 (x.toNat : Int)))[j]? = some v → (fill L s).cell? (a.add j) = some v := fun j v hj => by
      rw [List.getElem?_map] at hj
      cases hx : l[j]? with
      | none => simp [hx] at hj
      | some y =>
        simp [hx] at hj
        obtain ⟨b, off, cs, h1, h2, h3, rfl⟩ := h.2.2.2 j y hx
        injection h1 with h1; subst h1
        have := h2 0 _ rfl
        rw [add_lit, ← hj]
        simpa using fill_cell ho (hl.cell this)
    have hload := run_loadCells_list (P := P) (fill L s) a (l.map (fun x => Value.int .u8 (x.toNat : Int))) hcells
    rw [List.length_map, ← h.1] at hload
    have hr := run_bytesToString (P := P) (fill L s) a n c (l.map (fun x => (x.toNat : Int))) (by rw [hload, List.map_map]; rfl)
    rw [hr, bytes_fold]
    have he : (⟨ByteArray.empty.data ++ l.toArray⟩ : ByteArray) = ⟨l.toArray⟩ := by apply ByteArray.ext; exact Array.empty_append
    simp only [Result.andThen_ok, Sem.run_pure, he]
end Go.FL
namespace Go.Proofs.YtiljephghfngnaaGreatDoor
open Go Go.FL
theorem same_lists {α : Type} {l m : List α} (hl : l.length = m.length) (h : ∀ i x, i < l.length → l[i]? = some x → m[i]? = some x) : l = m := by
  apply List.ext_getElem?
  intro i
  by_cases hi : i < l.length
  · rw [h i _ hi (List.getElem?_eq_getElem hi), List.getElem?_eq_getElem hi]
  · rw [List.getElem?_eq_none O, List.getElem?_eq_none O]
theorem diff_lists {α : Type} {l m : List α} {i : Nat} {x y : α} (h1 : l[i]? = some x) (h2 : m[i]? = some y) (h : x ≠ y) : l ≠ m := fun e => by
  subst e; rw [h1] at h2; injection h2; contradiction
open Go.FL
attribute [local irreducible] JC JO JA JB thenQ blockQ retQ AC fill CellsAt QE Ev Mid
theorem sameWords_ac (D : Nat) (L : Hl) (s : World) (A : Option Addr) (n c : Nat) (l : List Int) (hA : Wds s A n c l) (A1 : Option Addr) (n1 c1 : Nat) (l1 : List Int) (hB : Wds s A1 n1 c1 l1) : AC Tryz.prog D 37 [.slice A n c, .slice A1 n1 c1] L s fun v L' _ => v = .bool (decide (l = l1)) ∧ L = L' := by
 have hn := hA.1
 have hc1 := hA.2.1
 have hc2 := hA.2.2.1
 have hn1 := hB.1
 refine AC_enter (TT := TT) (fn := Tryz.f37) TT_ok Tryz.func37 V Z Tryz.ntmps37 Z (rs := [.tmp 4]) Z [(0, _), (1, _)] Z <| Sr <| At Z Z <| Zs <| Sr <| Zqm Z Z <| Ws Y4 <| Zqm Z Z <| Ws Y4 <| Zqne Z Z Z <| Nt <| ?_
 refine JC_ifN Z (fun c1 => ?_) (fun c1 => ?_)
 ·
  refine Sr <| At Z Z <| Zo <| Zu <| ?_
  refine retQ_mk [] L (.inr Z) (.tmp Z (.nil)) Z (Lr D) (fun sR hS2 => ?_)
  refine ⟨?_, Z⟩
  have h0 : l ≠ l1 := fun e => by subst e; omega
  simp [resV, h0]; done
 refine Zk <| Zt <| Zs <| Sr <| At Z Z <| Zp <| JC_loop (γ := Nat) (fun k => [(0, _), (1, _), (4, _), (5, .int .i64 (k : Int))]) (fun _ => _) (fun k tw => Le D s tw ∧ (k ≤ n ∧ ∀ i x, i < k → l[i]? = some x → l1[i]? = some x)) (fun k => n - k) (fun _ _ _ h hl => ⟨h.1.trans hl, h.2⟩) 0 (.cons Z (.cons Z (.cons Z (.cons Z (.nil _))))) Z ⟨Le.refl _, ⟨Nat.zero_le _, fun i c hi => by omega⟩⟩ ?_
 intro k s2 I2
 have hk0 := I2.2.1
 have hI := I2.2.2
 refine Zs <| Sr <| Zqm Z Z <| Zqm Z Z <| Ws Y4 <| Zqlt Z Z Z <| Nt <| ?_
 refine JC_ifD Z (fun c3 => ?_) (fun c3 => ?_)
 ·
  have hk : k < n := by omega
  obtain ⟨b, off, x, rfl, hx, hcx, _⟩ := Wds.at_ (hA.le I2.1) hk
  obtain ⟨b1, off1, y, rfl, hy, hcy, _⟩ := Wds.at_ (hB.le I2.1) (show k < n1 by omega)
  refine Zk <| Zt <| Zs <| Zp <| Zs <| JC_draw drawsMixed 9 Z _ (fun _ h => h) ?_
  intro s4 h4
  refine za 0 Z (QE_mv Z) Z <| za 1 Z (QE_mv Z) Z <| za 2 Z (QE_ia1 Z Z Z Z Z Z hk) Z <| za 3 Z (QE_ldsR0 Z Z Z (hcx.le h4) Z) Z <| za 4 Z (QE_mv Z) Z <| za 5 Z (QE_mv Z) Z <| za 6 Z (QE_ia1 Z Z Z Z Z Z (show k < n1 by omega)) Z <| za 7 Z (QE_ldsR0 Z Z Z (hcy.le h4) Z) Z <| za 8 Z (QE_ne Z Z) Z <| JA_done V <| Zt ?_
  refine JC_ifN Z (fun c5 => ?_) (fun c5 => ?_)
  ·
   have hE : x ≠ y := by assumption
   refine Sr <| At Z Z <| Zo <| Zc <| Zu <| Zu <| Zc <| Zu <| ?_
   refine retQ_mk [] L (.inr Z) (.tmp Z (.nil)) Z (I2.1.t h4) (fun sR hS2 => ?_)
   refine ⟨?_, Z⟩
   have h0 : l ≠ l1 := diff_lists hx hy hE
   simp [resV, h0]; done
  have hE : x = y := by simpa using c5
  refine Zk <| Zb <| Zt <| Zr <| Zqm Z Z <| Zqadd Z Z Z (w64 O O) <| Zqa Z Z <| Zn <| ?_
  refine thenQ_n ⟨(k + 1), [], kp, Z, ⟨(I2.1.t h4), ⟨by omega, below_succ hI hx (hE ▸ hy)⟩⟩, O⟩
 refine Zl <| Zv <| Zv <| Zd <| Zt <| Sr <| At Z Z <| Zo <| ?_
 refine retQ_mk [] L (.inr Z) (.tmp Z (.nil)) Z I2.1 (fun sR hS2 => ?_)
 refine ⟨?_, Z⟩
 have h0 : l = l1 := same_lists O (fun i x hi h => hI i x O h)
 simp [resV, h0]; done
end Go.Proofs.YtiljephghfngnaaGreatDoor
namespace Go.Proofs.YtiljephghfngnaaGreatDoor
open Go Go.FL
def wv (l : List Int) : List Value := l.map (Value.int .u32)
def bv (l : List UInt8) : List Value := l.map fun x => Value.int .u8 (x.toNat : Int)
theorem bv_len (l : List UInt8) : (bv l).length = l.length := by simp [bv]
theorem Bts.nil (s : World) (A : Option Addr) (c : Nat) (hc : c ≤ 9223372036854775807) : Bts s A 0 c [] := ⟨rfl, Nat.zero_le _, hc, fun i x h => by cases h⟩
theorem Wds.nil (s : World) (A : Option Addr) (c : Nat) (hc : c ≤ 9223372036854775807) : Wds s A 0 c [] := ⟨rfl, Nat.zero_le _, hc, fun i x h => by cases h⟩
theorem Own.slice {e sz : Nat} {A : Hl} {v : Value} {n : Nat} {xs : List Value} (h : FL.Own e sz A v n xs) : ∃ Ad c, v = .slice Ad n c ∧ n ≤ c ∧ c ≤ 9223372036854775807 := by
  cases h with
  | nil => exact ⟨none, 0, rfl, Nat.le_refl _, by omega⟩
  | blk b cap n xs ys hn hc hnc hm => exact ⟨_, cap, rfl, hnc, hm⟩
theorem Own.bts {e : Nat} {A : Hl} {Ad : Option Addr} {n c : Nat} {l : List UInt8} {s : World} (h : FL.Own e 1 A (.slice Ad n c) n (bv l)) (hp : ∀ b zs t, (b, cb zs t) ∈ A → CellsAt s b 0 zs) : Bts s Ad n c l := by
  generalize hv : Value.slice Ad n c = v at h
  generalize hx : bv l = xs at h
  cases h with
  | nil =>
    injection hv with e1 e2 e3
    have : l = [] := by cases l with
      | nil => rfl
      | cons y l => simp [bv] at hx
    subst this; subst e3; exact Bts.nil s Ad 0 O
  | blk b cap n xs ys hn hc hnc hm =>
    injection hv with e1 e2 e3
    subst e1; subst e3; subst hx
    refine ⟨by simpa [bv] using hn.symm, hnc, hm, fun i x hi => ⟨b, 0, [.int .u8 (x.toNat : Int)], Z, fun j u hj => ?_, Z, Z⟩⟩
    have hc := hp b _ e (List.mem_cons_self ..)
    cases j with
    | zero =>
      simp at hj; subst hj
      have := hc i (.int .u8 (x.toNat : Int)) (by rw [List.getElem?_append_left (by simp [bv]; exact (List.getElem?_eq_some_iff.1 hi).1)]; simp [bv, hi])
      simpa using this
    | succ j => simp at hj
theorem Own.wds {e : Nat} {A : Hl} {Ad : Option Addr} {n c : Nat} {l : List Int} {s : World} (h : FL.Own e 1 A (.slice Ad n c) n (wv l)) (hu : ∀ x ∈ l, U32 x) (hp : ∀ b zs t, (b, cb zs t) ∈ A → CellsAt s b 0 zs) : Wds s Ad n c l := by
  generalize hv : Value.slice Ad n c = v at h
  generalize hx : wv l = xs at h
  cases h with
  | nil =>
    injection hv with e1 e2 e3
    have : l = [] := by cases l with
      | nil => rfl
      | cons y l => simp [wv] at hx
    subst this; subst e3; exact Wds.nil s Ad 0 O
  | blk b cap n xs ys hn hc hnc hm =>
    injection hv with e1 e2 e3
    subst e1; subst e3; subst hx
    refine ⟨by simpa [wv] using hn.symm, hnc, hm, fun i x hi => ⟨b, 0, [.int .u32 x], Z, fun j u hj => ?_, Z, Z, hu x (List.mem_of_getElem? hi)⟩⟩
    have hc := hp b _ e (List.mem_cons_self ..)
    cases j with
    | zero =>
      simp at hj; subst hj
      have := hc i (.int .u32 x) (by rw [List.getElem?_append_left (by simp [wv]; exact (List.getElem?_eq_some_iff.1 hi).1)]; simp [wv, hi])
      simpa using this
    | succ j => simp at hj
theorem Wds.u32 {s : World} {A : Option Addr} {n c : Nat} {l : List Int} (h : Wds s A n c l) : ∀ x ∈ l, U32 x := fun x hx => by
  obtain ⟨i, hi⟩ := List.getElem?_of_mem hx
  obtain ⟨b, off, cs, h1, h2, _, rfl, h4⟩ := h.2.2.2 i x hi
  exact h4
inductive All2 {α β : Type} (R : α → β → Prop) : List α → List β → Prop
  | nil : All2 R [] []
  | cons {a : α} {b : β} {l : List α} {m : List β} (h : R a b) (k : All2 R l m) : All2 R (a :: l) (b :: m)
theorem sl_lit {α : Type} {sz : Nat} {R : World → α → List Value → Prop} {s : World} {b : Nat} {l : List α} {css : List (List Value)} (h : All2 (fun x cs => cs.length = sz ∧ R s x cs) l css) :
    ∀ off, CellsAt s b off css.flatten → ∀ i x, l[i]? = some x → ∃ cs, CellsAt s b (off + i * sz) cs ∧ cs.length = sz ∧ R s x cs := by
  induction h with
  | nil => intro off _ i x hi; cases hi
  | @cons a c l m h k ih =>
    intro off hc i x hi
    have h1 : CellsAt s b off c := fun j v hj => hc j v (by rw [List.flatten_cons, List.getElem?_append_left (List.getElem?_eq_some_iff.1 hj).1]; exact hj)
    have h2 : CellsAt s b (off + sz) m.flatten := fun j v hj => by
      have := hc (sz + j) v (by rw [List.flatten_cons, List.getElem?_append_right O, h.1]; simpa using hj)
      rwa [← Nat.add_assoc] at this
    cases i with
    | zero => simp at hi; subst hi; exact ⟨c, by simpa using h1, h.1, h.2⟩
    | succ i =>
      obtain ⟨cs, k1, k2⟩ := ih (off + sz) h2 i x (by simpa using hi)
      exact ⟨cs, by rw [Nat.succ_mul]; rwa [show off + sz + i * sz = off + (i * sz + sz) by omega] at k1, k2⟩
theorem Sl.lit {α : Type} {sz : Nat} {R : World → α → List Value → Prop} {s : World} {b : Nat} {l : List α} (css : List (List Value)) {zs : List Value} (hc : CellsAt s b 0 zs) (hz : css.flatten = zs) (h : All2 (fun x cs => cs.length = sz ∧ R s x cs) l css) (n : Nat) (hn : n = l.length) (hm : n ≤ 9223372036854775807) : Sl sz R s (some ⟨b, 0, none⟩) n n l :=
  ⟨hn, Nat.le_refl _, hm, fun i x hi => by
    obtain ⟨cs, h1, h2⟩ := sl_lit h 0 (hz ▸ hc) i x hi
    exact ⟨b, 0, cs, rfl, h1, h2⟩⟩
theorem bts_pub {s : World} {b cc : Nat} {l : List UInt8} {yc : List Value} (hp : CellsAt s b 0 (bv l ++ yc)) (h1 : l.length + yc.length = cc) (h2 : cc ≤ 9223372036854775807) : Bts s (some ⟨b, 0, none⟩) l.length cc l :=
  Own.bts (e := 0) (A := [(b, cb (bv l ++ yc) 0)]) (.blk b cc l.length (bv l) yc (by simp [bv]) (by rw [bv_len]; omega) O h2) (fun b zs t hm => by
    simp only [List.mem_singleton, Prod.mk.injEq, cb, Obj.cells.injEq] at hm
    obtain ⟨rfl, h, rfl, _⟩ := hm
    have e : zs = bv l ++ yc := by simpa using h
    rw [e]; exact hp)
end Go.Proofs.YtiljephghfngnaaGreatDoor
namespace Go.FL
open Go Go.RowKit
theorem JC_pubX {P : Program} {TT : TyTab} {D n : Nat} {Q : APost} {fr : Fr} {s : World} {c : Code} (X A Y : Hl) (h : ∀ s', Le D s s' → Pub A s' → JC P TT D n Q c fr (X ++ Y) s') : JC P TT D n Q c fr (X ++ (A ++ Y)) s := fun ht a hr ho => by
  have hp : (X ++ (A ++ Y)).Perm (A ++ (X ++ Y)) := by
    rw [← List.append_assoc, ← List.append_assoc]
    exact (List.perm_append_comm).append_right Y
  rw [fill_perm hp _ ho]
  have ho2 := ho.perm hp
  obtain ⟨e, d1, d2⟩ := drop_own ho2
  rw [e]
  refine h _ d2 (fun b zs t hm j u hj => ?_) ht a hr d1
  rw [mem_cell ho2.left hm, Nat.zero_add]; exact hj
end Go.FL
namespace Go.Proofs.YtiljephghfngnaaGreatDoor
open Go Go.FL
theorem Own.rows {α : Type} {e sz : Nat} {A : Hl} {Ad : Option Addr} {n c : Nat} {css : List (List Value)} {l : List α} {R : World → α → List Value → Prop} {s : World} (h : FL.Own e sz A (.slice Ad n c) n css.flatten) (hp : Pub A s) (ha : All2 (fun x cs => cs.length = sz ∧ R s x cs) l css) (hn : n = l.length) : Sl sz R s Ad n c l := by
  generalize hv : Value.slice Ad n c = v at h
  generalize hx : css.flatten = xs at h
  cases h with
  | nil =>
    injection hv with e1 e2 e3
    subst e1; subst e3
    have : l = [] := List.eq_nil_of_length_eq_zero hn.symm
    subst this
    exact ⟨rfl, Nat.le_refl _, by omega, fun i x h => by cases h⟩
  | blk b cap n xs ys h1 h2 h3 h4 =>
    injection hv with e1 e2 e3
    subst e1; subst e3; subst hx
    have hc : CellsAt s b 0 css.flatten := fun j v hj => hp b _ e (List.mem_cons_self ..) j v (by rw [List.getElem?_append_left (List.getElem?_eq_some_iff.1 hj).1]; exact hj)
    exact ⟨hn, h3, h4, fun i x hi => by
      obtain ⟨cs, k1, k2⟩ := sl_lit ha 0 hc i x hi
      exact ⟨b, 0, cs, rfl, k1, k2⟩⟩
def Strs (s : World) (A : Option Addr) (n c : Nat) (l : List (List UInt8)) : Prop := Sl 1 (fun _ x cs => cs = [St x] ∧ x.length ≤ 9223372036854775807) s A n c l
theorem Strs.le {D : Nat} {s s' : World} {A : Option Addr} {n c : Nat} {l : List (List UInt8)} (h : Strs s A n c l) (hl : Le D s s') : Strs s' A n c l := Sl.le (fun _ _ h => h) h hl
theorem Strs.at_ {s : World} {A : Option Addr} {n c k : Nat} {l : List (List UInt8)} (h : Strs s A n c l) (hk : k < n) : ∃ b off x, A = some ⟨b, off, none⟩ ∧ l[k]? = some x ∧ CellsAt s b (off + k) [St x] ∧ x.length ≤ 9223372036854775807 := by
  have hl : k < l.length := by rw [← h.1]; exact hk
  obtain ⟨b, off, cs, h1, h2, _, rfl, h4⟩ := h.2.2.2 k l[k] (List.getElem?_eq_getElem hl)
  exact ⟨b, off, l[k], h1, List.getElem?_eq_getElem hl, by simpa using h2, h4⟩
def splitF (c : Int) : List UInt8 → List UInt8 → List (List UInt8)
  | cur, [] => [cur]
  | cur, x :: r => if (x.toNat : Int) = c then cur :: splitF c [] r else splitF c (cur ++ [x]) r
def splitB (c : Int) (l : List UInt8) : List (List UInt8) := splitF c [] l
theorem splitF_short (c : Int) (cur l : List UInt8) : ∀ p ∈ splitF c cur l, p.length ≤ cur.length + l.length := by
  induction l generalizing cur with
  | nil => intro p hp; simp [splitF] at hp; subst hp; simp
  | cons x r ih =>
    intro p hp
    simp only [splitF] at hp
    split at hp
    · rcases List.mem_cons.1 hp with rfl | hp
      · simp only [List.length_cons]; omega
      · have := ih [] p hp; simp only [List.length_nil, List.length_cons] at this ⊢; omega
    · have := ih (cur ++ [x]) p hp; simp only [List.length_append, List.length_cons, List.length_nil] at this ⊢; omega
theorem split_hit {l : List UInt8} {c : Int} {i f : Nat} {x : UInt8} (h : l[i]? = some x) (hx : (x.toNat : Int) = c) : splitF c ((l.drop f).take (i - f)) (l.drop i) = ((l.drop f).take (i - f)) :: splitF c ((l.drop (i + 1)).take ((i + 1) - (i + 1))) (l.drop (i + 1)) := by
  obtain ⟨hi, rfl⟩ := List.getElem?_eq_some_iff.1 h
  rw [List.drop_eq_getElem_cons hi]
  simp only [splitF, hx, if_true, Nat.sub_self, List.take_zero]
theorem split_miss {l : List UInt8} {c : Int} {i f : Nat} {x : UInt8} (h : l[i]? = some x) (hx : ¬ (x.toNat : Int) = c) (hf : f ≤ i) : splitF c ((l.drop f).take (i - f)) (l.drop i) = splitF c ((l.drop f).take ((i + 1) - f)) (l.drop (i + 1)) := by
  obtain ⟨hi, rfl⟩ := List.getElem?_eq_some_iff.1 h
  rw [List.drop_eq_getElem_cons hi]
  simp only [splitF, hx, if_false]
  congr 1
  rw [show i + 1 - f = (i - f) + 1 by omega, List.take_add_one, List.getElem?_drop, show f + (i - f) = i by omega, List.getElem?_eq_getElem hi]; rfl
theorem split_end {l : List UInt8} {c : Int} {f : Nat} : splitF c ((l.drop f).take (l.length - f)) (l.drop l.length) = [l.drop f] := by
  rw [List.drop_length, List.take_of_length_le (by simp)]; rfl
def sb (l : List (List UInt8)) : List Value := l.map fun x => St x
theorem sb_snoc (l : List (List UInt8)) (x : List UInt8) : sb (l ++ [x]) = sb l ++ [St x] := by simp [sb]
theorem Own.strs {e : Nat} {A : Hl} {Ad : Option Addr} {n c : Nat} {l : List (List UInt8)} {s : World} (h : FL.Own e 1 A (.slice Ad n c) n (sb l)) (hu : ∀ x ∈ l, x.length ≤ 9223372036854775807) (hp : Pub A s) (hn : n = l.length) : Strs s Ad n c l := by
  have he : sb l = (l.map fun x => [St x]).flatten := by
    clear h hu hn
    induction l with
    | nil => rfl
    | cons x r ih => simp [sb] at ih ⊢; exact ih
  rw [he] at h
  refine Own.rows h hp ?_ hn
  clear h he hn
  induction l with
  | nil => exact .nil
  | cons x r ih => exact .cons ⟨rfl, rfl, hu x (List.mem_cons_self ..)⟩ (ih fun y hy => hu y (List.mem_cons_of_mem _ hy))
open Go.FL
attribute [local irreducible] JC JO JA JB thenQ blockQ retQ AC fill CellsAt QE Ev Mid
theorem splitO_ac (D : Nat) (L : Hl) (s : World) (l : List UInt8) (c : Int) (hl : l.length ≤ 1000000000) : AC Tryz.prog D 42 [St l, .int .u8 c] L s fun v L' s' => ∃ M', L' = M' ++ L ∧ ∀ s2, Le D s' s2 → Pub M' s2 → ∃ A n c', v = .slice A n c' ∧ Strs s2 A n c' (splitB c l) := by
 refine AC_enter (TT := TT) (fn := Tryz.f42) TT_ok Tryz.func42 V Z Tryz.ntmps42 Z (rs := [.tmp 4]) Z [(0, _), (1, _)] Z <| Sr <| At Z Z <| Sr <| At Z Z <| Sr <| At Z Z <| Zs <| Sr <| At Z Z <| Zp <| ?_
 refine JC_loop (γ := Nat × Nat × Value × Hl × List (List UInt8)) (fun g => [(0, _), (1, _), (4, _), (5, g.2.2.1), (6, .int .i64 (g.2.1 : Int)), (7, .int .i64 (g.1 : Int))]) (fun g => g.2.2.2.1 ++ L) (fun g tw => Le D s tw ∧ (g.1 ≤ l.length ∧ g.2.1 ≤ g.1 ∧ FL.Own 9 1 g.2.2.2.1 g.2.2.1 g.2.2.2.2.length (sb g.2.2.2.2) ∧ g.2.2.2.2.length ≤ g.1 ∧ splitB c l = g.2.2.2.2 ++ splitF c ((l.drop g.2.1).take (g.1 - g.2.1)) (l.drop g.1))) (fun g => l.length - g.1) (fun _ _ _ h hl => ⟨h.1.trans hl, h.2⟩) (0, 0, .slice none 0 0, [], []) (.cons Z (.cons Z (.cons Z (.cons Z (.cons Z (.cons Z (.nil _))))))) Z ⟨Le.refl _, ⟨Nat.zero_le _, Nat.le_refl _, Own.nil, Nat.le_refl _, by simp [splitB]⟩⟩ ?_
 intro g s1 I1
 obtain ⟨i, f, vo, Mo, out⟩ := g
 obtain ⟨hi0, hf, hO, hol, hS⟩ := I1.2
 simp only at hi0 hf hO hol hS
 dsimp only
 refine Zs <| Sr <| Zqm Z Z <| Zqm Z Z <| Zqlt2 Z Z Z Z <| Zqlt Z Z Z <| Nt <| ?_
 refine JC_ifD Z (fun c2 => ?_) (fun c2 => ?_)
 ·
  have hk : i < l.length := by omega
  obtain ⟨ch, hch⟩ : ∃ ch, l[i]? = some ch := ⟨_, List.getElem?_eq_getElem hk⟩
  refine Zk <| Zt <| Zs <| Zp <| Sr <| Zqm Z Z <| Zqm Z Z <| JO_q (QE_ix Z Z Z Z hch) Z <| Zqm Z Z <| Zqeq Z Z Z <| Nt <| ?_
  refine JC_ifD Z (fun c3 => ?_) (fun c3 => ?_)
  ·
   have hne := c3
   refine Sr <| Zqm Z Z <| Zqm Z Z <| Zqm Z Z <| Zqm Z Z <| JO_q (QE_stLH Z Z Z Z Z O O) Z <| JO_bs [(_, _)] [_] Z Z Z Z Z Z Z Z Z ?_
   intro βn s4 h4 hcb
   refine JO_app (sz := 1) [] Mo L Z Z Z Z Z Z Z hO (Row.of_cells (hcb.le (Lr D)) Z Z) ⟨by simp [ti9]; omega, by omega⟩ Z ?_
   intro v2 A2x s5 h5 o2
   obtain ⟨Av2, cv2, rfl, _, _⟩ := Own.slice o2
   simp only [List.nil_append]
   refine At Z Z <| Zr <| Zqm Z Z <| Zqadd Z Z Z (w64 O O) <| Zqa Z Z <| Zn <| Zb <| Zt <| Zr <| Zqm Z Z <| Zqadd Z Z Z (w64 O O) <| Zqa Z Z <| Zn <| ?_
   refine thenQ_n ⟨(i + 1, i + 1, .slice Av2 (out.length + 1) cv2, A2x, out ++ [(l.drop f).take (i - f)]), [], kp, Z, ⟨(I1.1.t h4|>.t h5), by first | exact ⟨by simp only; omega, by simp only; omega, by simp only [List.length_append, List.length_cons, List.length_nil, sb_snoc]; exact o2, by simp; omega, by simp only; rw [hS, split_hit hch hne, List.append_assoc]; rfl⟩ | exact ⟨by simp only; omega, by simp only; omega, hO, by simp only; omega, by simp only; rw [hS, split_miss hch hne hf]⟩⟩, (by simp only; omega)⟩
  have hne := c3
  refine Zk <| Zb <| Zt <| Zr <| Zqm Z Z <| Zqadd Z Z Z (w64 O O) <| Zqa Z Z <| Zn <| ?_
  refine thenQ_n ⟨(i + 1, f, vo, Mo, out), [], kp, Z, ⟨I1.1, by first | exact ⟨by simp only; omega, by simp only; omega, by simp only [List.length_append, List.length_cons, List.length_nil, sb_snoc]; exact o2, by simp; omega, by simp only; rw [hS, split_hit hch hne, List.append_assoc]; rfl⟩ | exact ⟨by simp only; omega, by simp only; omega, hO, by simp only; omega, by simp only; rw [hS, split_miss hch hne hf]⟩⟩, (by simp only; omega)⟩
 have hiE : i = l.length := by omega
 subst hiE
 rw [split_end] at hS
 refine Zl <| Zv <| Zv <| Zd <| Zt <| Sr <| Zqm Z Z <| Zqm Z Z <| Zqm Z Z <| JO_q (QE_stL Z Z Z Z O) Z <| JO_bs [(_, _)] [_] Z Z Z Z Z Z Z Z Z ?_
 intro βn s6 h6 hcb
 refine JO_app (sz := 1) [] Mo L Z Z Z Z Z Z Z hO (Row.of_cells (hcb.le (Lr D)) Z Z) ⟨by simp [ti9]; omega, by omega⟩ Z ?_
 intro v2 A2x s7 h7 o2
 obtain ⟨Av2, cv2, rfl, _, _⟩ := Own.slice o2
 simp only [List.nil_append]
 refine At Z Z <| Zo <| ?_
 refine retQ_mk [] _ (.inr Z) (.tmp Z (.nil)) Z (I1.1.t h6|>.t h7) (fun sR hS2 => ?_)
 refine ⟨_, Z, fun s2 hs2 hp => ⟨_, _, _, Z, ?_⟩⟩
 rw [hS]
 exact Own.strs (by rw [sb_snoc]; exact o2) (fun x hx => by rw [← hS] at hx; have := splitF_short c [] l x hx; simp at this; omega) hp (by simp)
theorem split_ac (D : Nat) (L : Hl) (s : World) (l : List UInt8) (c : Int) (hl : l.length ≤ 1000000000) : AC Tryz.prog D 42 [St l, .int .u8 c] L s fun v L' s' => L = L' ∧ ∃ A n c', v = .slice A n c' ∧ Strs s' A n c' (splitB c l) := AC.pubW (splitO_ac D L s l c hl)
end Go.Proofs.YtiljephghfngnaaGreatDoor
namespace Go.FL
open Go Go.RowKit
section
variable {P : Program} {D : Nat} {L : Hl} {s : World}
theorem AC.of_calls {f : FuncId} {args : List Value} {R : Value → Hl → World → Prop} (hf : FnOK P f)
    (h : OKL D L s → Calls P f args.toArray (fill L s) fun e w' => ∃ v, e = .returned v ∧ Below (fill L s).heap.size (fill L s) w' ∧ ∀ s', w' = fill L s' → Le D s s' → (∀ k, s.heap.size ≤ k → s'.heap[k]? = w'.heap[k]?) → R v L s') : AC P D f args L s R :=
  ⟨hf, fun ho => (h ho).mono fun e w' ⟨v, he, hb, hr⟩ => by
    obtain ⟨e1, o1, l1⟩ := of_ext ho hb
    refine ⟨v, L, blank D L w', he, e1, o1, l1, hr _ e1 l1 fun k hk => blank_other fun hm => ?_⟩
    obtain ⟨x, hx, rfl⟩ := List.mem_map.1 hm
    have := ho.lt hx
    omega⟩
theorem below_refl (w : World) : Below w.heap.size w w := Below.refl _ _
theorem mark_free' (l : List Obj) : ∃ D, ∀ E, D ≤ E → ∀ o ∈ l, o ≠ dum E := by
  induction l with
  | nil => exact ⟨0, fun _ _ _ h => by cases h⟩
  | cons x l ih =>
    obtain ⟨D, h⟩ := ih
    by_cases hx : ∃ E, x = dum E
    · obtain ⟨E0, rfl⟩ := hx
      refine ⟨D + E0 + 1, fun E hE o ho => ?_⟩
      rcases List.mem_cons.1 ho with rfl | ho
      · intro e; simp only [dum] at e; injection e; omega
      · exact h E O o ho
    · refine ⟨D, fun E hE o ho => ?_⟩
      rcases List.mem_cons.1 ho with rfl | ho
      · exact fun e => hx ⟨E, e⟩
      · exact h E hE o ho
theorem mark_world' (W : World) : ∃ D, ∀ k : Nat, W.heap[k]? ≠ some (dum D) := by
  obtain ⟨D, h⟩ := mark_free' W.heap.toList
  refine ⟨D, fun k hk => h D (Nat.le_refl _) _ ?_ Z⟩
  rw [← Array.getElem?_toList] at hk
  exact List.mem_of_getElem? hk
theorem calls_of_AC {f : FuncId} {args : List Value} {W : World} {v0 : Value} (h : ∀ D, AC P D f args [] W fun v L' _ => v = v0 ∧ [] = L') :
    Calls P f args.toArray W fun e w' => e = .returned v0 ∧ Below W.heap.size W w' := by
  obtain ⟨D, hD⟩ := mark_world' W
  refine ((h D).2 ⟨List.nodup_nil, fun _ h => by cases h⟩).mono ?_
  rintro e w' ⟨v, L', s', he, hw, _, hl, hv, hL⟩
  subst hL
  have hw' : w' = s' := hw
  subst hw'
  refine ⟨by rw [he, hv], ⟨hl.os, hl.tape, hl.output, hl.size, fun k hk => ?_⟩⟩
  rcases hl.block k hk with h1 | h1
  · exact absurd h1 (hD k)
  · exact h1
end
end Go.FL
namespace Go.Proofs.YtiljephghfngnaaGreatDoor
open Go Go.FL Go.RowKit
def fnd (c : UInt8) : List UInt8 → Option Nat
  | [] => none
  | x :: l => if x = c then some 0 else (fnd c l).map (· + 1)
def fndI : Option Nat → Int
  | none => -1
  | some i => (i : Int)
theorem fnd_lt {c : UInt8} {l : List UInt8} {i : Nat} (h : fnd c l = some i) : i < l.length := by
  induction l generalizing i with
  | nil => cases h
  | cons x l ih =>
    simp only [fnd] at h
    split at h
    · injection h with h; subst h; simp
    · cases h' : fnd c l with
      | none => rw [h'] at h; cases h
      | some j => rw [h'] at h; simp at h; have := ih h'; simp; omega
theorem indexByte_fnd (l : List UInt8) (c : UInt8) : Lib.indexByte l c = fndI (fnd c l) := by
  induction l with
  | nil => rfl
  | cons x l ih =>
    simp only [Lib.indexByte, fnd]
    by_cases h : x = c
    · simp [h, fndI]
    · simp only [beq_iff_eq, h, if_false, ih]
      cases fnd c l with
      | none => simp [fndI]
      | some i =>
        have h1 : ¬ (i : Int) = -1 := by omega
        show (if (i : Int) = -1 then (-1 : Int) else (i : Int) + 1) = ((i + 1 : Nat) : Int)
        rw [if_neg h1]; rfl
theorem u8_eq {x c : UInt8} : x = c ↔ (x.toNat : Int) = (c.toNat : Int) := by
  constructor
  · rintro rfl; rfl
  · intro h; exact UInt8.toNat_inj.1 O
structure GW (s : World) : Prop where
  pow : ∃ ty fz, s.heap[Tryz.laysM284_ren.g 17]? = some (.cells (Lib.pow10Tab.map fun z => Value.int .u64 z).toArray ty fz)
  es : ∃ t p, s.cell? ⟨Tryz.laysPu14_ren.g 0, 0, none⟩ = some (.iface t p)
  er : ∃ t p, s.cell? ⟨Tryz.laysPu14_ren.g 1, 0, none⟩ = some (.iface t p)
theorem heap_le {D : Nat} {s s' : World} {k : Nat} {cs : Array Value} {ty : TypeId} {fz : Nat × Nat} (h : s.heap[k]? = some (.cells cs ty fz)) (hl : Le D s s') : s'.heap[k]? = some (.cells cs ty fz) := by
  have hk : k < s.heap.size := by
    rcases Nat.lt_or_ge k s.heap.size with h1 | h1
    · exact h1
    · rw [Array.getElem?_eq_none h1] at h; cases h
  rcases hl.block k hk with h1 | h1
  · rw [h] at h1; simp [dum] at h1
  · rw [h1, h]
theorem GW.le {D : Nat} {s s' : World} (h : GW s) (hl : Le D s s') : GW s' := by
  obtain ⟨⟨t, f, h1⟩, ⟨t2, p2, h2⟩, ⟨t3, p3, h3⟩⟩ := h
  exact ⟨⟨t, f, heap_le h1 hl⟩, ⟨t2, p2, hl.cell h2⟩, ⟨t3, p3, hl.cell h3⟩⟩
theorem tab_of {w : World} {nm : String} (hg : Tryz.prog.globalNamed nm = some (Tryz.laysM284_ren.g 17)) (h : GW w) : Lib.TabIs Tryz.prog w nm .u64 Lib.pow10Tab := by
  obtain ⟨t, f, h1⟩ := h.pow
  simp only [Lib.TabIs, World.var?, hg, Option.bind_some, h1]
section
variable (D : Nat) (L : Hl) (s : World)
theorem fnok_parse : FnOK Tryz.prog 87 := ⟨_, Tryz.func87, by kernel_rfl, by kernel_rfl⟩
inductive PuV : List UInt8 → Value → Prop
  | ok (l : List UInt8) (u : Nat) (h : Lib.parseUintB 32 l = .ok u) : PuV l (.tuple #[.int .u64 u, .nilIface])
  | bad (l : List UInt8) (h : ∀ u, Lib.parseUintB 32 l ≠ .ok u) (n : Int) (t : TypeId) (p : Value) : PuV l (.tuple #[.int .u64 n, .iface t p])
theorem parse_ac (hG : GW s) (l : List UInt8) (hl : l.length ≤ 281474976710656) : AC Tryz.prog D 87 [St l, .int .i64 10, .int .i64 32] L s fun v L' _ => PuV l v ∧ L = L' :=
  AC.of_calls fnok_parse fun ho => by
    have hw := hG.le (fill_le ho)
    have hs : (⟨l.toArray⟩ : ByteArray).size ≤ 281474976710656 := by simpa [Lib.size_eq] using hl
    by_cases hok : ∃ u, Lib.parseUintB 32 l = .ok u
    · obtain ⟨u, hp⟩ := hok
      refine (Any.strconv_ParseUint_10_at32_ok Tryz.laysPu14 ⟨l.toArray⟩ O u hp (fill L s)).mono fun e w' ⟨he, hw'⟩ => ⟨_, he, ?_, fun s' _ _ _ => ⟨.ok l u hp, Z⟩⟩
      rcases hw' with rfl | rfl
      · exact below_refl _
      · exact Go.Joins.below_bytesWorld _ _ _ _ (Nat.le_refl _)
    · have hno : ∀ u, Lib.parseUintB 32 l ≠ .ok u := fun u h => hok ⟨u, h⟩
      by_cases hr : Lib.parseUintB 32 l = .range
      · obtain ⟨te, pe, h1⟩ := hw.er
        refine (Any.strconv_ParseUint_10_at32_range Tryz.laysPu14 ⟨l.toArray⟩ hs hr _ (fill L s) h1 (.inr ⟨te, pe, Z⟩)).mono fun e w' ⟨N, he, _, _, hb⟩ => ⟨_, he, hb, fun s' _ _ _ => ⟨.bad l hno _ _ _, Z⟩⟩
      · obtain ⟨te, pe, h1⟩ := hw.es
        refine (Any.strconv_ParseUint_10_at32_syntax Tryz.laysPu14 ⟨l.toArray⟩ hs (by cases h : Lib.parseUintB 32 l <;> simp_all) _ (fill L s) h1 (.inr ⟨te, pe, Z⟩)).mono fun e w' ⟨N, he, _, _, hb⟩ => ⟨_, he, hb, fun s' _ _ _ => ⟨.bad l hno _ _ _, Z⟩⟩
end
end Go.Proofs.YtiljephghfngnaaGreatDoor
namespace Go.FL
open Go Go.RowKit
theorem QE_slA {P : Program} {TT : TyTab} {D : Nat} {fr : Fr} {ty : Nat} {K : Hl} {s0 : World} {t e b m : Nat} {x y : Operand} {ti te : TI} {ik : IntKind} {j : Nat} (hx : lk fr x = some (.pointer (some ⟨b, 0, none⟩))) (hy : lk fr y = some (.int ik (j : Int))) (ht : tlook TT t = some ti) (hk : ti.kind = .ar m e) (he : tlook TT e = some te) (hj : j ≤ m) :
    QE P TT D fr (.slice t x none (some y) none) ty K s0 (.slice (some ⟨b, 0, none⟩) j m) :=
  QE.pure fun hT dst pos af g ρ hρ w => by
    have hb : (Instr.sliceBounds false m m none (some (.int ik (j : Int))) none).run P w = .ok (0, j, m) w := by simp [Instr.sliceBounds, bound_ok hj]
    have hu : P.underlying t = some (.array m e) := by
      obtain ⟨h1, h2, _⟩ := hT.at_ ht
      rw [hk] at h2
      rw [h1]
      exact congrArg some h2
    have hr : (Instr.sliceAt t (.pointer (some ⟨b, 0, none⟩)) none (some (.int ik (j : Int))) none).run P w = .ok (.slice (some ⟨b, 0, none⟩) j m) w := by
      simp [Instr.sliceAt, Instr.sureAddr, run_underlying hu, hb, run_sizeOf' (hT.at_ he), Addr.add]
    simp only [execOp, hρ x _ hx, Option.map_none, Option.map_some, hρ y _ hy, Sem.run_bind, hr, Result.andThen_ok, Sem.run_pure]
theorem fill_drewN (L : Hl) (s : World) (n : Nat) : (fill L s).drewN n = fill L (s.drewN n) := by
  induction L with
  | nil => rfl
  | cons x L ih => show setBlk ((fill L s).drewN n) x.1 x.2 = setBlk (fill L (s.drewN n)) x.1 x.2; rw [ih]
theorem Le.drewN {D : Nat} (s : World) (n : Nat) : Le D s (s.drewN n) := ⟨rfl, rfl, rfl, Nat.le_refl _, fun _ _ => .inr rfl⟩
theorem mapBlock_set (w : World) (b ty : Nat) (zs : List Value) (f : Array Value → Array Value) : Sort.mapBlock (setBlk w b (cb zs ty)) b f = setBlk w b (cb (f zs.toArray).toList ty) := by
  refine world_eq (heap_ext fun k => ?_) Z Z Z Z
  show ((w.heap.setIfInBounds b _).modify b _)[k]? = (w.heap.setIfInBounds b _)[k]?
  rw [Array.getElem?_modify]
  by_cases hk : b = k
  · subst hk
    rw [if_pos rfl, Array.getElem?_setIfInBounds_self, Array.getElem?_setIfInBounds_self]
    split
    · simp [Sort.onCells, cb]
    · rfl
  · rw [if_neg hk, Array.getElem?_setIfInBounds_ne hk, Array.getElem?_setIfInBounds_ne hk]
end Go.FL
namespace Go.Proofs.YtiljephghfngnaaGreatDoor
open Go Go.FL Go.RowKit
section
variable (D : Nat) (L : Hl) (s : World)
theorem fnok_small : FnOK Tryz.prog 131 := ⟨_, Tryz.func131, by kernel_rfl, by kernel_rfl⟩
theorem fnok_nd : FnOK Tryz.prog 132 := ⟨_, Tryz.func132, by kernel_rfl, by kernel_rfl⟩
theorem fnok_fmt : FnOK Tryz.prog 133 := ⟨_, Tryz.func133, by kernel_rfl, by kernel_rfl⟩
theorem small_ac (u : Nat) (h : u < 100) : AC Tryz.prog D 131 [.int .i64 (u : Int)] L s fun v L' _ => v = St (Lib.decDigits u) ∧ L = L' :=
  AC.of_calls fnok_small fun _ => (Any.internal_strconv_small Tryz.lays283 u h (fill L s)).mono fun e w' ⟨he, hw⟩ => ⟨_, he, by rw [hw]; exact below_refl _, fun s' _ _ _ => ⟨rfl, rfl⟩⟩
theorem nd_ac (hG : GW s) (u : Nat) (h1 : 1 ≤ u) (h2 : u < 4294967296) : AC Tryz.prog D 132 [.int .u64 (u : Int)] L s fun v L' _ => v = .int .i64 (Lib.nDigits u : Int) ∧ L = L' :=
  AC.of_calls fnok_nd fun ho => (Any.internal_strconv_numDigits Tryz.laysM284 u h1 O (fill L s) (tab_of Tryz.laysM284.m17 (hG.le (fill_le ho)))).mono fun e w' ⟨he, hw⟩ => ⟨_, he, by rw [hw]; exact below_refl _, fun s' _ _ _ => ⟨rfl, rfl⟩⟩
theorem nd_le {u : Nat} (h : u < 4294967296) : Lib.nDigits u ≤ 20 := by
  by_cases h1 : 1 ≤ u
  · have := Lib.numDigits_eq u h1 O; split at this <;> omega
  · obtain rfl : u = 0 := by omega
    rw [Lib.nDigits]; simp
def z24 : List Value := List.replicate 24 (.int .u8 0)
theorem format_ac (u : Nat) (h2 : u < 4294967296) (b ty : Nat) : AC Tryz.prog D 133 [.slice (some ⟨b, 0, none⟩) (Lib.nDigits u) 24, .int .u64 (u : Int)] ((b, cb z24 ty) :: L) s
    fun v L' _ => v = .tuple #[] ∧ ∃ ys, L' = (b, cb (bv (Lib.decDigits u) ++ ys) ty) :: L ∧ (Lib.decDigits u).length + ys.length = 24 := by
  refine ⟨fnok_fmt, fun ho => ?_⟩
  have hnd := nd_le h2
  have hblk : (fill ((b, cb z24 ty) :: L) s).heap[b]? = some (cb z24 ty) := fill_mem ho (List.mem_cons_self ..)
  have hH : Sort.Holds (fun (x : UInt8) => Value.int .u8 (x.toNat : Int)) (fill ((b, cb z24 ty) :: L) s) b 0 (Array.replicate (Lib.nDigits u) (0 : UInt8)) := by
    intro j hj
    have hj' : j < Lib.nDigits u := by simpa using hj
    refine ⟨?_, by unfold World.frozen?; rw [hblk]; simp [cb]⟩
    rw [Nat.zero_add, mem_cell ho (List.mem_cons_self ..), getElem!_pos _ j hj, z24, List.getElem?_replicate, if_pos O]
    simp
  have h := Any.internal_strconv_formatBase10 Tryz.lays285 b 0 24 u (Array.replicate (Lib.nDigits u) 0) _ hH (by rw [Array.size_replicate]; exact Lib.lt_pow_nDigits u) O (by rw [Array.size_replicate]; omega)
  rw [Array.size_replicate] at h
  refine h.mono ?_
  rintro e w' ⟨he, n, v', dk, hw, hF⟩
  have hsz : dk.size = Lib.nDigits u := hF.size
  have hlen : (Lib.decDigits u).length = Lib.nDigits u := Lib.decDigits_length u
  have hcells : (Sort.putCells (fun (x : UInt8) => Value.int .u8 (x.toNat : Int)) 0 dk z24.toArray).toList = bv (Lib.decDigits u) ++ List.replicate (24 - Lib.nDigits u) (.int .u8 0) := by
    apply List.ext_getElem?
    intro k
    simp only [Sort.putCells, Array.toList_mapIdx, List.getElem?_mapIdx, Nat.zero_le, true_and, Nat.zero_add, Nat.sub_zero]
    by_cases hk : k < Lib.nDigits u
    · rw [List.getElem?_append_left (by simp [bv]; omega)]
      have h24 : z24[k]? = some (.int .u8 0) := by rw [z24, List.getElem?_replicate, if_pos O]
      rw [h24]
      simp only [Option.map_some, hsz, hk, if_true, bv, List.getElem?_map]
      rw [List.getElem?_eq_getElem O, ← Lib.row_is_numeral hF k O]
      rfl
    · rw [List.getElem?_append_right (by simp [bv]; omega)]
      have hk' : ¬ k < dk.size := by omega
      have hbl : (bv (Lib.decDigits u)).length = Lib.nDigits u := by simp [bv, hlen]
      rw [hbl]
      by_cases h24 : k < 24
      · have e1 : z24[k]? = some (.int .u8 0) := by rw [z24, List.getElem?_replicate, if_pos O]
        rw [e1]
        simp [hk', List.getElem?_replicate]
        omega
      · have e1 : z24[k]? = none := by simp [z24]; omega
        rw [e1]
        simp [List.getElem?_replicate]
        omega
  have hworld : w' = fill ((b, cb (bv (Lib.decDigits u) ++ List.replicate (24 - Lib.nDigits u) (.int .u8 0)) ty) :: L) (s.drewN n) := by
    rw [hw, Sort.putRow]
    show (Sort.mapBlock (setBlk (fill L s) b (cb z24 ty)) b _).drewN n = _
    rw [mapBlock_set, hcells]
    exact fill_drewN ((b, cb (bv (Lib.decDigits u) ++ List.replicate (24 - Lib.nDigits u) (.int .u8 0)) ty) :: L) s n
  exact ⟨_, _, _, he, hworld, ⟨ho.nd, fun x hx => by
    rcases List.mem_cons.1 hx with rfl | hx
    · exact ho.dm (b, cb z24 ty) (List.mem_cons_self ..)
    · exact ho.dm x (List.mem_cons_of_mem _ hx)⟩, Le.drewN s n, rfl, _, rfl, by simp; omega⟩
end
theorem num_not {l : List UInt8} (h : ∀ u, Lib.parseUintB 32 l ≠ .ok u) : numL l = none := by
  cases hn : numL l with
  | none => rfl
  | some v => exact absurd ((parse_num l v).2 hn).1 (h v)
theorem wrap_small {n : Nat} (h : n < 4294967296) : IntKind.u32.wrap (n : Int) = (n : Int) := by rw [IntKind.wrap_u32]; omega
end Go.Proofs.YtiljephghfngnaaGreatDoor
namespace Go.FL
open Go Go.RowKit
structure Apps (P : Program) (w : World) (t u ty e : Nat) (i : TypeInfo) (z : Value) (y : Value) (m : Nat) (news : List Value) : Prop where
  none : m = 0 → (Builtin.append_ #[t, u] ty #[.slice none 0 0, y]).run P w = .ok (.slice none 0 0) w
  nil : 0 < m → m ≤ 9223372036854775807 → m * i.bytes ≤ 140737488355328 → (Builtin.append_ #[t, u] ty #[.slice .none 0 0, y]).run P w = .ok (.slice (some ⟨w.heap.size, 0, .none⟩) m (grownCap w m 0 e)) (w.drew.alloc (.cells (news.toArray ++ Builtin.zeroCells z.cells (grownCap w m 0 e - m)) e))
  room : ∀ g sLen sCap (cur : Array Value), w.heap[g]? = some (.cells cur e (0, 0)) → sLen + m ≤ sCap → sLen * i.size + news.length ≤ cur.size → (Builtin.append_ #[t, u] ty #[.slice (some ⟨g, 0, .none⟩) sLen sCap, y]).run P w = .ok (.slice (some ⟨g, 0, .none⟩) (sLen + m) sCap) (w.setRow g (cur.toList.take (sLen * i.size) ++ news ++ cur.toList.drop (sLen * i.size + news.length)).toArray)
  grow : ∀ g n cap (xs : List Value), xs.length = n * i.size → (∀ j v, xs[j]? = some v → w.cell? ((⟨g, 0, .none⟩ : Addr).add j) = some v) → cap < n + m → n + m ≤ 9223372036854775807 → (n + m) * i.bytes ≤ 140737488355328 →
    (Builtin.append_ #[t, u] ty #[.slice (some ⟨g, 0, .none⟩) n cap, y]).run P w = .ok (.slice (some ⟨w.heap.size, 0, .none⟩) (n + m) (grownCap w (n + m) cap e)) (w.drew.alloc (.cells (xs.toArray ++ news.toArray ++ Builtin.zeroCells z.cells (grownCap w (n + m) cap e - (n + m))) e))
theorem run_appG {P : Program} {w : World} {t u ty e : Nat} {i : TypeInfo} {z y : Value} {m size bytes : Nat} {news : List Value} (hS : Apps P w t u ty e i z y m news) (hsize : i.size = size) (hby : i.bytes = bytes) (hzs : z.cells.size = size)
    (v : Value) (n : Nat) (xs : List Value) (hown : w.ownsRow 0 e size v n xs) (hl : news.length = m * size) (h63 : n + m ≤ maxLen) (hbytes : (n + m) * bytes ≤ 140737488355328) :
    ∃ v' w', (Builtin.append_ #[t, u] ty #[v, y]).run P w = .ok v' w' ∧ w'.ownsRow 0 e size v' (n + m) (xs ++ news) ∧ w.grownBy w' v.ownBlock ∧ (v'.ownBlock = v.ownBlock ∨ v'.ownBlock = some w.heap.size) ∧ (v = .slice none 0 0 → m = 0 → v' = .slice none 0 0) := by
  subst hsize
  subst hby
  have hsmall : n + m ≤ 9223372036854775807 := by simp only [maxLen] at h63; omega
  have hlen : (xs ++ news).length = (n + m) * i.size := by rw [List.length_append, hown.1, hl, Nat.add_mul]
  have grown : ∀ (old : Nat), old < n + m → ∀ (row : Option Nat),
      (w.drew.alloc (.cells (xs.toArray ++ news.toArray ++ Builtin.zeroCells z.cells (grownCap w (n + m) old e - (n + m))) e)).ownsRow 0 e i.size
        (.slice (some ⟨w.heap.size, 0, none⟩) (n + m) (grownCap w (n + m) old e)) (n + m) (xs ++ news) ∧
      w.grownBy (w.drew.alloc (.cells (xs.toArray ++ news.toArray ++ Builtin.zeroCells z.cells (grownCap w (n + m) old e - (n + m))) e)) row := by
    intro old ho row
    have hge := grownCap_ge w (n + m) old e
    have hcm : grownCap w (n + m) old e ≤ maxLen := grownCap_le_maxLen w (n + m) old e h63
    refine ⟨⟨hlen, .inr ⟨w.heap.size, _, _, Z, Nat.zero_le _, heap_alloc_new w.drew _, hge, hcm, ?_, ?_⟩⟩, ⟨Z, Z, Z, by simp, fun k hk _ => by show (w.heap.push _)[k]? = w.heap[k]?; rw [Array.getElem?_push, if_neg (Nat.ne_of_lt hk)]⟩⟩
    · simp only [Array.size_append, List.size_toArray, size_zeroCells, hzs, hown.1, hl, ← Nat.add_mul]
      congr 1
      omega
    · simp only [Array.toList_append, List.append_assoc]
      rw [← List.append_assoc, ← hlen]
      exact List.take_left
  rcases hown.2 with ⟨rfl, rfl⟩ | ⟨g, cap, cur, rfl, hbg, hg, hnc, hcm, hcs, htake⟩
  · have hx : xs = [] := List.eq_nil_of_length_eq_zero (by simpa using hown.1)
    subst hx
    by_cases hm : m = 0
    · have hn : news = [] := List.eq_nil_of_length_eq_zero (by rw [hl, hm]; simp)
      refine ⟨.slice none 0 0, w, hS.none hm, ?_, ⟨Z, Z, Z, Nat.le_refl _, fun _ _ _ => rfl⟩, Or.inl Z, fun _ _ => rfl⟩
      rw [hn, hm]; exact World.ownsRow_nil w 0 e i.size
    · have hr := hS.nil O O (by have hb := hbytes; simp only [Nat.zero_add] at hb; exact hb)
      have hgr := grown 0 O (Value.ownBlock (.slice none 0 0))
      simp only [Nat.zero_add, List.nil_append, Array.empty_append] at hgr ⊢
      exact ⟨_, _, hr, hgr.1, hgr.2, Or.inr rfl, fun _ h => absurd h hm⟩
  · by_cases hroom : n + m ≤ cap
    · have hfit : n * i.size + news.length ≤ cur.size := by rw [hl, hcs, ← Nat.add_mul]; exact Nat.mul_le_mul_right _ hroom
      have hr := hS.room g n cap cur hg hroom hfit
      refine ⟨_, _, hr, ⟨hlen, .inr ⟨g, cap, _, Z, hbg, setRow_heap w g cur _ e _ hg, hroom, hcm, ?_, ?_⟩⟩, ⟨Z, Z, Z, by simp, fun k _ hk => setRow_other w g k _ (fun e => hk (by simp [Value.ownBlock, e]))⟩, Or.inl Z, fun h => by cases h⟩
      · simp only [List.size_toArray, List.length_append, List.length_take, List.length_drop, Array.length_toList]
        omega
      · rw [htake, ← hlen]
        exact List.take_left
    · have holds : ∀ j u, xs[j]? = some u → w.cell? ((⟨g, 0, none⟩ : Addr).add j) = some u := hown.cells (g := g) rfl
      have hr := hS.grow g n cap xs hown.1 holds O hsmall hbytes
      have hgr := grown cap O (Value.ownBlock (.slice (some ⟨g, 0, none⟩) n cap))
      exact ⟨_, _, hr, hgr.1, hgr.2, Or.inr rfl, fun h => by cases h⟩
section
variable {P : Program} {TT : TyTab} {D n : Nat} {Q : APost} {fr : Fr} {L L' K : Hl} {s s' s0 : World} {ops : Array Oper} {rest : List Oper} {d ty : Nat} {op : Op} {pos : String} {af : Array Edge} {v : Value}
theorem Ev_appG {t u e m k sz : Nat} {x y : Operand} {yv : Value} {ti te : TI} {news xs : List Value} (B A L0 : Hl) (hT : TabOK P TT) (hx : lk fr x = some v) (hy : lk fr y = some yv) (ht : tlook TT t = some ti) (hk : ti.kind = .sl e) (he : tlook TT e = some te) (hsz : te.size = sz)
    (hO : FL.Own e sz A v k xs) (hl : news.length = m * sz) (hS : ∀ w i, P.underlying t = some (.slice e) → P.info? e = some i → i.size = te.size → i.bytes = te.bytes → i.zero = some te.zero → Apps P w t u ty e i te.zero yv m news) (h63 : (k + m) * te.bytes ≤ 140737488355328 ∧ k + m ≤ 9223372036854775807) (ho : OKL D (B ++ (A ++ L0)) s) :
    ∃ v' A' s', Ev P TT D fr (.call { callee := .builtin .append, args := #[x, y], argTypes := #[t, u] }) ty (B ++ (A ++ L0)) s (.value v') (B ++ (A' ++ L0)) s' ∧ Le D s s' ∧ FL.Own e sz A' v' (k + m) (xs ++ news) ∧ (v = .slice none 0 0 → m = 0 → v' = .slice none 0 0) := by
  obtain ⟨k1, k2, _⟩ := hT.at_ ht
  rw [hk] at k2
  simp only [TK.fits] at k2
  rw [k2] at k1
  have hte := hT.at_ he
  obtain ⟨i, i1, i2, i3, i4⟩ := info_of hte
  have hzs : te.zero.cells.size = te.size := by rw [zero_cells hte]; simpa using hte.2.2.2.1
  have hin : ∀ x ∈ A, (fill (B ++ (A ++ L0)) s).heap[x.1]? = some x.2 := fun x hx => fill_mem ho (mem_mid.2 (.inr (.inl hx)))
  obtain ⟨v', w', hrun, hown', hgr, hat, hnl⟩ := run_appG (hS (fill (B ++ (A ++ L0)) s) i k1 i1 i2 i3 i4) (i2.trans hsz) i3 (by rw [hzs, hsz]) v k xs (hO.owns hin) hl (by simpa [maxLen] using h63.2) h63.1
  obtain ⟨A', hO', hA'⟩ := Own.of_owns hown'
  rw [fill_size] at hat
  obtain ⟨r1, r2, r3⟩ := of_row (D := D) ho hO hO' hA' hgr hat
  refine ⟨v', A', blank D (B ++ (A' ++ L0)) w', fun hT ho dst pos af g ρ hρ => ⟨?_, r2⟩, r3, hO', hnl⟩
  rw [← r1]
  simp only [execOp, resolve, invoke, builtin, Sem.run_bind, Sem.run_pure, Result.andThen_ok, List.map_toArray, List.map_cons, List.map_nil, hρ x _ hx, hρ y _ hy, hrun]
theorem JO_appG {t u e m k sz : Nat} {x y : Operand} {yv : Value} {ti te : TI} {news xs : List Value} (B A L0 : Hl) (hL : L = B ++ (A ++ L0)) (hx : lk fr x = some v) (hy : lk fr y = some yv) (ht : tlook TT t = some ti) (hk : ti.kind = .sl e) (he : tlook TT e = some te) (hsz : te.size = sz)
    (hO : FL.Own e sz A v k xs) (hl : news.length = m * sz) (hS : TabOK P TT → ∀ w i, P.underlying t = some (.slice e) → P.info? e = some i → i.size = te.size → i.bytes = te.bytes → i.zero = some te.zero → Apps P w t u ty e i te.zero yv m news) (h63 : (k + m) * te.bytes ≤ 140737488355328 ∧ k + m ≤ 9223372036854775807) (hd : Nat.blt d n = true)
    (kk : ∀ v' A' s', Le D s s' → FL.Own e sz A' v' (k + m) (xs ++ news) → (v = .slice none 0 0 → m = 0 → v' = .slice none 0 0) → JO P TT D n ops Q rest ((d, v') :: fr) (B ++ (A' ++ L0)) s') :
    JO P TT D n ops Q (⟨some d, .call { callee := .builtin .append, args := #[x, y], argTypes := #[t, u] }, ty, pos, af, none⟩ :: rest) fr L s := fun hT a hr ho => by
  subst hL
  obtain ⟨v', A', s', h1, h2, h3, h4⟩ := Ev_appG (ty := ty) B A L0 hT hx hy ht hk he hsz hO hl (hS hT) h63 ho
  exact JO_ev hd h1 (kk v' A' s' h2 h3 h4) hT a hr ho
end
theorem apps_str {P : Program} {w : World} {t u ty e : Nat} {i : TypeInfo} {z : Value} (l : List UInt8) (ht : P.underlying t = some (.slice e)) (hu : P.underlying u = some .string) (hi : P.info? e = some i) (hs : i.size = 1) (hb : i.bytes = 1) (hz : i.zero = some z) :
    Apps P w t u ty e i z (St l) l.length (l.map fun b => Value.int .u8 (b.toNat : Int)) := by
  have hsz : (⟨l.toArray⟩ : ByteArray).size = l.length := by simp [ByteArray.size]
  have hcs : Lib.strCells ⟨l.toArray⟩ = l.map fun b => Value.int .u8 (b.toNat : Int) := by simp [Lib.strCells]
  refine ⟨fun h0 => ?_, fun h1 h2 h3 => ?_, fun g sLen sCap cur hg hr hf => ?_, fun g n cap xs hl hc hcap h63 hby => ?_⟩
  · have hf := Lib.run_firstCells_string (P := P) w 1 ⟨l.toArray⟩
    have hl : l = [] := List.eq_nil_of_length_eq_zero h0
    subst hl
    simp [Builtin.append_, run_underlying ht, run_underlying hu, sizeOf, typeInfo, hi, hs, Builtin.lenOf, Builtin.firstCells, ByteArray.size]
  · have hr := run_append_nil_string (P := P) w t u ty e i z ht hu hi hz ⟨l.toArray⟩ (by rw [hsz]; exact h1) (by rw [hsz]; omega) (by rw [hsz]; exact Nat.le_trans h3 O)
    rw [hsz] at hr
    have e1 : ((⟨l.toArray⟩ : ByteArray).data.map fun b => Value.int .u8 (b.toNat : Int)) = (l.map fun b => Value.int .u8 (b.toNat : Int)).toArray := by apply Array.ext'; simp
    rw [e1] at hr
    exact hr
  · have hr' := Lib.run_append_room_string (P := P) (ty := ty) w t u e i ht hu hi hs g sLen sCap cur hg ⟨l.toArray⟩ (by rw [hsz]; exact hr) (by rw [hsz]; simpa [hs] using hf)
    rw [hsz, hcs] at hr'
    rw [hs, Nat.mul_one, List.length_map]
    exact hr'
  · have hr := Lib.run_append_grow_string (P := P) (ty := ty) w t u e i z ht hu hi hz ⟨g, 0, none⟩ n cap xs hl hc ⟨l.toArray⟩ (by rw [hsz]; exact hcap) (by rw [hsz]; omega) (by rw [hsz]; exact growslice_fits hcap hby)
    rw [hsz, hcs] at hr
    exact hr
theorem apps_zero {P : Program} {w : World} {t u ty e : Nat} {i : TypeInfo} {z : Value} {ik : IntKind} (m : Nat) (ht : P.underlying t = some (.slice e)) (hu : P.underlying u = some (.int ik)) (hi : P.info? e = some i) (hs : i.size = 1) (hz : i.zero = some z) (hzc : z.cells = #[z]) (h1c : z.oneCell' = true) (hm : m ≤ 9223372036854775807) (hmb : (m : Int) * i.bytes ≤ 281474976710656) :
    Apps P w t u ty e i z (.int ik (m : Int)) m (List.replicate m z) := by
  have hw : IntKind.i64.wrap (m : Int) = (m : Int) := w64 O O
  have h0 : ¬ ((m : Int) < 0) := by omega
  have hmb' : ¬ (281474976710656 < (m : Int) * (i.bytes : Int)) := by omega
  have hzz : Builtin.zeroCells z.cells m = (List.replicate m z).toArray := by
    rw [hzc]; apply Array.ext'; simp only [Builtin.zeroCells]
    apply List.ext_getElem
    · simp
    · intro k h1 h2; simp [Nat.mod_one]
  have happ : ∀ w' : World, (if m * i.size = 0 then (pure #[] : Sem (Array Value)) else do pure (Builtin.zeroCells (← zeroValue e).cells m)).run P w' = .ok (List.replicate m z).toArray w' := fun w' => by
    by_cases hm0 : m = 0
    · subst hm0; simp
    · rw [if_neg (by rw [hs]; omega)]; simp [zeroValue, typeInfo, hi, hz, hzz]
  refine ⟨fun h0 => ?_, fun h1 h2 h3 => ?_, fun g sLen sCap cur hg hr hf => ?_, fun g n cap xs hl hc hcap h63 hby => ?_⟩
  · subst h0
    have hw0 : IntKind.i64.wrap 0 = 0 := hw
    simp [Builtin.append_, run_underlying ht, run_underlying hu, sizeOf, typeInfo, hi, hs, asInt, asIntOf, hw0]
  · have hn : ¬ (m = 0) := by omega
    have h63' : ¬ (9223372036854775807 < (m : Int)) := by omega
    have h48' : ¬ (281474976710656 < Builtin.nextslicecap m 0 * i.bytes) := by rw [nextslicecap_zero h1]; omega
    simp [Builtin.append_, run_underlying ht, run_underlying hu, sizeOf, typeInfo, zeroValue, hi, hz, hs, asInt, asIntOf, hw, h0, hmb', hn, h63', h48', Question.forced, newRow, grownCap, Builtin.firstCells, hzz]
  · have hst := run_storeCells_at P g sLen e (List.replicate m z) 0 cur w hg (by simpa [hs] using hf) (fun u hu => by rw [(List.mem_replicate.1 hu).2]; exact h1c)
    simp only [Nat.add_zero] at hst
    by_cases hm0 : m = 0
    · subst hm0
      have hw0 : IntKind.i64.wrap 0 = 0 := hw
      have hr0 : sLen ≤ sCap := hr
      simp at hst
      simp [Builtin.append_, run_underlying ht, run_underlying hu, sizeOf, typeInfo, zeroValue, hi, hz, hs, asInt, asIntOf, hw0, hr0, Addr.add_lit, hst]
    · simp [Builtin.append_, run_underlying ht, run_underlying hu, sizeOf, typeInfo, zeroValue, hi, hz, hs, asInt, asIntOf, hw, h0, hmb', hr, hm0, Addr.add_lit, hzz, hst]
  · have hn : ¬ (n + m ≤ cap) := by omega
    have h63' : ¬ (9223372036854775807 < ((n : Int) + (m : Int))) := by omega
    have hgs := growslice_fits hcap hby
    have h48' : ¬ (281474976710656 < Builtin.nextslicecap (n + m) cap * i.bytes) := by omega
    have hfo := run_firstCells_some (P := P) w.drew i.size n ⟨g, 0, none⟩ n cap xs hl (by simpa using hc)
    by_cases hm0 : m = 0
    · subst hm0
      rw [hs] at hfo
      have hw0 : IntKind.i64.wrap 0 = 0 := hw
      have hn0 : ¬ (n ≤ cap) := hn
      have h630 : ¬ (9223372036854775807 < (n : Int)) := by omega
      simp [Builtin.append_, run_underlying ht, run_underlying hu, sizeOf, typeInfo, zeroValue, hi, hz, hs, asInt, asIntOf, hw0, hn0, h630, Question.forced, newRow, grownCap, hfo]
      try exact fun h => absurd h h48'
    · rw [hs] at hfo
      simp [Builtin.append_, run_underlying ht, run_underlying hu, sizeOf, typeInfo, zeroValue, hi, hz, hs, asInt, asIntOf, hw, h0, hmb', hn, hm0, h63', h48', Question.forced, newRow, grownCap, hfo, hzz]
section
variable {P : Program} {TT : TyTab} {D n : Nat} {Q : APost} {fr : Fr} {L L' K : Hl} {s s' s0 : World} {ops : Array Oper} {rest : List Oper} {d ty : Nat} {op : Op} {pos : String} {af : Array Edge} {v : Value}
theorem QE_sadd {x y : Operand} {a b : List UInt8} {t t' : Nat} (hx : lk fr x = some (St a)) (hy : lk fr y = some (St b)) (h : a.length + b.length ≤ 9223372036854775807) : QE P TT D fr (.binOp .add t x y t') ty K s0 (St (a ++ b)) :=
  QE.pure fun _ dst pos af g ρ hρ w => by
    have h1 : ¬ (9223372036854775807 < ((a.length : Int) + (b.length : Int))) := by omega
    have e : (⟨a.toArray⟩ : ByteArray) ++ ⟨b.toArray⟩ = ⟨(a ++ b).toArray⟩ := by
      apply ByteArray.ext; simp
    simp [execOp, hρ x _ hx, hρ y _ hy, eqGuard, binOp, Op.stringOp, ByteArray.size, h1, e]
def EqNil (e : Value) (b : Bool) : Prop := (e = .nilIface ∧ b = true) ∨ ∃ u p, e = .iface u p ∧ b = false
theorem QE_inil {x : Operand} {e : Value} {b : Bool} {t t' : Nat} (hu : P.underlying t = some (.interface (P.methodsAt t))) (hx : lk fr x = some e) (hE : EqNil e b) : QE P TT D fr (.binOp .eql t x (.const .nilIface) t') ty K s0 (.bool b) :=
  QE.pure fun _ dst pos af g ρ hρ w => by
    have hc := hρ (.const .nilIface) _ rfl
    rcases hE with ⟨rfl, rfl⟩ | ⟨u, p, rfl, rfl⟩
    · simp [execOp, hρ x _ hx, hc, eqGuard_nil_constR, run_eql_nil_nil w t hu]
    · simp [execOp, hρ x _ hx, hc, eqGuard, run_eql_held_nil w t u p hu]
end
section
variable {P : Program} {TT : TyTab} {D n : Nat} {Q : APost} {fr : Fr} {L : Hl} {s : World}
inductive SufO (ks : List Nat) (fr : Fr) : Fr → Prop
  | refl : SufO ks fr fr
  | push {d : Nat} {v : Value} {fr' : Fr} (hd : ((flook fr d).isNone || ks.any (Nat.beq d)) = true) (h : SufO ks fr fr') : SufO ks fr ((d, v) :: fr')
theorem So {p : Prop} (h : p := by repeat (first | exact SufO.refl | refine SufO.push rfl ?_)) : p := h
theorem SufO.at_ {ks : List Nat} {fr fr' : Fr} (h : SufO ks fr fr') {t : Nat} {v : Value} (ht : ks.any (Nat.beq t) = false) (hv : flook fr t = some v) : flook fr' t = some v := by
  induction h with
  | refl => exact hv
  | @push d u fr' hd _ ih =>
    rw [flook_cons]
    by_cases he : d = t
    · subst he; rw [hv, ht] at hd; cases hd
    · rw [if_neg he]; exact ih
theorem flook_none {l : Fr} {t : Nat} (h : flook l t = none) : (l.map (·.1)).any (Nat.beq t) = false := by
  induction l with
  | nil => rfl
  | cons x l ih =>
    obtain ⟨d, v⟩ := x
    rw [flook_cons] at h
    by_cases he : d = t
    · rw [if_pos he] at h; cases h
    · rw [if_neg he] at h
      simp only [List.map_cons, List.any_cons, ih h, Bool.or_false]
      cases hb : Nat.beq t d with
      | false => rfl
      | true => exact absurd (Nat.eq_of_beq_eq_true hb).symm he
theorem keepsO {new fr fr' : Fr} (h1 : Keeps fr' new) (h2 : SufO (new.map (·.1)) fr fr') : Keeps fr' (new ++ fr) := by
  intro t v h
  rw [flook_append] at h
  cases hn : flook new t with
  | none => rw [hn] at h; exact h2.at_ (flook_none hn) h
  | some u => rw [hn] at h; exact h1 t v (by rw [hn]; exact h)
def MidG {γ : Type} (D : Nat) (s : World) (fr : Fr) (new : γ → Fr) (X : Hl) (H : γ → Hl) (I : γ → World → Prop) : Fr → Hl → World → Prop := fun fr' L' s' => ∃ g A, Le D s s' ∧ L'.Perm (A ++ (X ++ H g)) ∧ I g s' ∧ Keeps fr' (new g ++ fr)
theorem MidG.mk {γ : Type} {new : γ → Fr} {X : Hl} {H : γ → Hl} {I : γ → World → Prop} {fr' : Fr} {L' : Hl} {s' : World} (g : γ) (A : Hl) (hl : Le D s s') (hK : Keeps fr' (new g)) (hS : SufO ((new g).map (·.1)) fr fr') (hp : L'.Perm (A ++ (X ++ H g))) (hI : I g s') : MidG D s fr new X H I fr' L' s' := ⟨g, A, hl, hp, hI, keepsO hK hS⟩
theorem JC_cutG {γ : Type} {x y : Code} (new : γ → Fr) (X : Hl) {Y : Hl} (_hX : L = X ++ Y) (H : γ → Hl) (I : γ → World → Prop) (mono : ∀ g s s', I g s → Le D s s' → I g s') (h1 : JC P TT D n (thenQ (MidG D s fr new X H I) Q) x fr L s)
    (h2 : ∀ g s', Le D s s' → I g s' → JC P TT D n Q y (new g ++ fr) (X ++ H g) s') : JC P TT D n Q (.seq x y) fr L s := fun ht a hr ho =>
  wp_seq (wp_mono (h1 ht a hr ho) fun e a w ⟨fr', L', s', k1, k2, k3, k4⟩ => by
    cases e with
    | normal =>
      subst k3
      obtain ⟨g, A, j0, j2, j3, j1⟩ := k4
      rw [fill_perm j2 _ k2]
      obtain ⟨e, d1, d2⟩ := drop_own (k2.perm j2)
      rw [e]
      exact h2 g _ (j0.trans d2) (mono _ _ _ j3 d2) ht a (k1.sub j1) d1
    | _ => exact ⟨fr', L', s', k1, k2, k3, k4⟩)
end
theorem ndec_eq {p q : Prop} [Decidable p] [Decidable q] (h : p ↔ ¬ q) : (!decide q) = decide p := by
  by_cases hq : q
  · have hp : ¬ p := fun x => (h.1 x) hq
    simp [hq, hp]
  · simp [hq, h.2 hq]
theorem Kb {p : Prop} (h : p := by first | rfl | exact congrArg (fun b => some (Value.bool b)) (decide_eq_true Og).symm | exact congrArg (fun b => some (Value.bool b)) (decide_eq_false Og).symm | exact congrArg (fun b => some (Value.bool b)) (decide_eq_decide.2 Og) | exact congrArg (fun b => some (Value.bool b)) (ndec_eq Og)) : p := h
theorem AC.perm {P : Program} {D : Nat} {f : FuncId} {args : List Value} {L L1 : Hl} {s : World} {R R' : Value → Hl → World → Prop} (hp : L.Perm L1) (h : AC P D f args L1 s R) (hq : ∀ v L1' s', R v L1' s' → ∃ L', L1'.Perm L' ∧ R' v L' s') : AC P D f args L s R' :=
  ⟨h.1, fun ho => by
    rw [fill_perm hp _ ho]
    refine (h.2 (ho.perm hp)).mono ?_
    rintro e w' ⟨v, L1', s', he, hw, hok, hl, hr⟩
    obtain ⟨L', h1, h2⟩ := hq v L1' s' hr
    exact ⟨v, L', s', he, by rw [hw, fill_perm h1 _ hok], hok.perm h1, hl, h2⟩⟩
end Go.FL
namespace Go.Proofs.YtiljephghfngnaaGreatDoor
open Go Go.FL Go.RowKit
theorem ba_get {l : List UInt8} {pos : Nat} (h : pos < (⟨l.toArray⟩ : ByteArray).size) : ∃ c, l[pos]? = some c ∧ (⟨l.toArray⟩ : ByteArray)[pos]'h = c := by
  have h' : pos < l.length := by simpa [Lib.size_eq] using h
  exact ⟨l[pos], List.getElem?_eq_getElem h', by simp [ByteArray.getElem_eq_getElem_data]⟩
structure GP (s : World) : Prop where
  gw : GW s
  asc : ∃ ty fz, s.heap[0]? = some (.cells (Lib.asciiSpaceTab.map fun z => Value.int .u8 z).toArray ty fz)
theorem GP.le {D : Nat} {s s' : World} (h : GP s) (hl : Le D s s') : GP s' := by
  obtain ⟨h1, ⟨t, f, h2⟩⟩ := h
  exact ⟨h1.le hl, ⟨t, f, heap_le h2 hl⟩⟩
theorem asc_of {w : World} (h : GP w) : Lib.TabIs Tryz.prog w "strings.asciiSpace" .u8 Lib.asciiSpaceTab := by
  obtain ⟨t, f, h1⟩ := h.asc
  have hg : Tryz.prog.globalNamed "strings.asciiSpace" = some 0 := by kernel_rfl
  simp only [Lib.TabIs, World.var?, hg, Option.bind_some, h1]
section
variable (D : Nat) (L : Hl) (s : World)
theorem fnok_sfields : FnOK Tryz.prog 41 := ⟨_, Tryz.func41, by kernel_rfl, by kernel_rfl⟩
theorem fnok_join : FnOK Tryz.prog 46 := ⟨_, Tryz.func46, by kernel_rfl, by kernel_rfl⟩
theorem fnok_ixb : FnOK Tryz.prog 89 := ⟨_, Tryz.func89, by kernel_rfl, by kernel_rfl⟩
theorem ixByte_ac (l : List UInt8) (c : UInt8) : AC Tryz.prog D 89 [St l, .int .u8 (c.toNat : Int)] L s fun v L' _ => v = .int .i64 (fndI (fnd c l)) ∧ L = L' :=
  AC.of_calls fnok_ixb fun _ => (Any.strings_IndexByte Tryz.lays137 ⟨l.toArray⟩ (c.toNat : Int) (fill L s)).mono fun e w' ⟨he, hw⟩ => by
    refine ⟨_, he, by rw [hw]; exact below_refl _, fun s' _ _ _ => ⟨?_, Z⟩⟩
    show Value.int .i64 (Lib.indexByte l (c.toNat : Int).toNat.toUInt8) = _
    rw [Int.toNat_natCast, indexByte_fnd]
    congr 3
    exact UInt8.ofNat_toNat
def okA (l : List UInt8) : Bool := l.all fun c => decide (c.toNat < 128) && (decide (c = 32) || decide (c = 10) || !(decide (c.toNat = 9) || decide (c.toNat = 11) || decide (c.toNat = 12) || decide (c.toNat = 13)))
end
section
variable (D : Nat) (L : Hl) (s : World)
theorem strs_cells {A : Option Addr} {n c : Nat} {ws : List (List UInt8)} {w : World} (h : Strs s A n c ws) (hl : Le D s w) {b off : Nat} (hA : A = some ⟨b, off, none⟩) : ∀ (j : Nat) (x : ByteArray), (ws.map fun x => (⟨x.toArray⟩ : ByteArray))[j]? = some x → w.cell? ⟨b, off + j, none⟩ = some (.string x) := by
  intro j x hj
  rw [List.getElem?_map] at hj
  obtain ⟨y, hy, rfl⟩ := Option.map_eq_some_iff.1 hj
  obtain ⟨b', off', cs, h1, h2, _, rfl, _⟩ := h.2.2.2 j y hy
  rw [hA] at h1; injection h1 with h1; injection h1 with e1 e2; subst e1; subst e2
  exact hl.cell (by simpa using h2 0 (St y) rfl)
end
end Go.Proofs.YtiljephghfngnaaGreatDoor
namespace Go.FL
open Go Go.RowKit
theorem own_blkQ {e : Nat} {M : Hl} {Ad : Option Addr} {n c : Nat} {xs : List Value} (h : FL.Own e 1 M (.slice Ad n c) n xs) (hn : 0 < n) : ∃ b ys, Ad = some ⟨b, 0, none⟩ ∧ M = [(b, cb (xs ++ ys) e)] ∧ xs.length = n ∧ xs.length + ys.length = c ∧ n ≤ c ∧ c ≤ 9223372036854775807 := by
  cases h with
  | nil => omega
  | blk b cap _ _ ys h1 h2 h3 h4 => exact ⟨b, ys, rfl, rfl, by simpa using h1, by simpa using h2, h3, h4⟩
section
variable {P : Program} {TT : TyTab} {D n : Nat} {Q : APost} {fr : Fr} {L L' K : Hl} {s s' s0 : World} {ops : Array Oper} {rest : List Oper} {d ty : Nat} {op : Op} {pos : String} {af : Array Edge} {v : Value}
theorem QE_peq {x : Operand} {p : Option Addr} {t t' te : Nat} (hp : P.underlying t = some (.pointer te)) (hx : lk fr x = some (.pointer p)) : QE P TT D fr (.binOp .eql t x (.const (.pointer none)) t') ty K s0 (.bool p.isNone) :=
  QE.pure fun _ dst pos af g ρ hρ w => by
    have hc := hρ (.const (.pointer none)) _ rfl
    have h : ∀ k : Nat, (Op.equalIn (k + 1) t (.pointer p) (.pointer none)).run P w = .ok p.isNone w := fun k => by cases p <;> simp [Op.equalIn, run_underlying hp]
    have h2 : (binOp .eql t (.pointer p) (.pointer none)).run P w = .ok (.bool p.isNone) w := by simp only [binOp]; simp [Op.equal, Op.maxDepth, h 9999]
    simp [execOp, hρ x _ hx, hc, eqGuard, h2]
theorem QE_pns {x y : Operand} {a : Addr} {t t' te : Nat} {ti : TI} (hp : P.underlying t = some (.pointer te)) (hte : tlook TT te = some ti) (hx : lk fr x = some (.pointer (some a))) (hy : lk fr y = some (.pointer (some a))) : QE P TT D fr (.binOp .neq t x y t') ty K s0 (.bool false) :=
  QE.pure fun hT dst pos af g ρ hρ w => by
    obtain ⟨i, i1, _⟩ := info_of (hT.at_ hte)
    simp [execOp, hρ x _ hx, hρ y _ hy, eqGuard, Lib.run_neq_ptr_same w a hp i1]
theorem shape_mem {zs : List Value} {b e : Nat} (ho : OKL D L s) (hi : (b, cb zs e) ∈ L) : (fill L s).shape? b = some (e, zs.length) := by
  have := fill_mem ho hi
  unfold World.shape?
  rw [this]
  simp [cb]
theorem QE_toU {t t' te b e : Nat} {x : Operand} {ti : TI} {zs : List Value} (i : Nat) (hs : P.underlying t = some (.pointer te)) (hd : P.underlying t' = some .unsafePointer) (hte : tlook TT te = some ti) (hx : lk fr x = some (.pointer (some ⟨b, 0, none⟩))) (hi : K[i]? = some (b, cb zs e)) (hz : Nat.blt 0 zs.length = true) : QE P TT D fr (.convert t t' x) ty K s0 (.pointer (some ⟨b, 0, none⟩)) :=
  fun hT dst pos af g ρ hρ L s ho hl hK => by
    obtain ⟨i0, i1, i2, _⟩ := info_of (hT.at_ hte)
    have hpos : 0 < ti.size := (hT.at_ hte).2.2.2.2.2.1
    have hr := Lib.run_to_unsafe (P := P) (fill L s) ⟨b, 0, none⟩ hs hd i1 (by rw [i2]; omega) (shape_mem ho (hK _ (List.mem_of_getElem? hi))) (by simpa using hz)
    simp only [execOp, hρ x _ hx, Sem.run_bind, hr, Result.andThen_ok, Sem.run_pure]
theorem QE_fromU {t t' te b e : Nat} {x : Operand} {ti : TI} {zs : List Value} (i : Nat) (hs : P.underlying t = some .unsafePointer) (hd : P.underlying t' = some (.pointer te)) (hte : tlook TT te = some ti) (hx : lk fr x = some (.pointer (some ⟨b, 0, none⟩))) (hi : K[i]? = some (b, cb zs e)) (hlies : liesAt P P.depth e (zs.length / P.cellsOf e) 0 te 1 = true) : QE P TT D fr (.convert t t' x) ty K s0 (.pointer (some ⟨b, 0, none⟩)) :=
  fun hT dst pos af g ρ hρ L s ho hl hK => by
    obtain ⟨i0, i1, i2, _⟩ := info_of (hT.at_ hte)
    have hr := Lib.run_from_unsafe (P := P) (fill L s) ⟨b, 0, none⟩ hs hd i1 (shape_mem ho (hK _ (List.mem_of_getElem? hi))) hlies
    simp only [execOp, hρ x _ hx, Sem.run_bind, hr, Result.andThen_ok, Sem.run_pure]
theorem QE_same {f : FuncId} {fn : Func} {x y : Operand} {ts : Array TypeId} (hf : P.funcs[f]? = some fn) (hname : (fn.name == "runtime.NumGoroutine") = false) (hb : fn.body.isNone = true) (hn : Extern.findNext fn = none) (he : Extern.find fn = some Extern.AbiNoEscape.same) (hx : lk fr x = some (.func (.func f) #[] #[])) (hy : lk fr y = some v) :
    QE P TT D fr (.call { callee := .value x, args := #[y], argTypes := ts }) ty K s0 v :=
  QE.pure fun hT dst pos af g ρ hρ w => by
    have hr := run_callFunc_extern hf hname hb hn he #[v] w
    rw [Lib.run_noEscape] at hr
    simp [execOp, resolve, Deferred.ofValue, invoke, hρ x _ hx, hρ y _ hy, hr]
theorem QE_usd {x : Operand} {ts : Array TypeId} {A : Option Addr} {m c : Nat} (hx : lk fr x = some (.slice A m c)) (hc : A = none ∨ c ≠ 0) : QE P TT D fr (.call { callee := .builtin .unsafeSliceData, args := #[x], argTypes := ts }) ty K s0 (.pointer A) :=
  QE.pure fun hT dst pos af g ρ hρ w => by
    rcases hc with rfl | hc
    · simp [execOp, resolve, invoke, builtin, hρ x _ hx, Lib.run_unsafeSliceData_nil]
    · cases A with
      | none => simp [execOp, resolve, invoke, builtin, hρ x _ hx, Lib.run_unsafeSliceData_nil]
      | some a => simp [execOp, resolve, invoke, builtin, hρ x _ hx, Lib.run_unsafeSliceData_row _ _ _ _ _ _ hc]
theorem freeze_set (w : World) (g e k : Nat) (cs : Array Value) (hk : k ≠ 0) (hg : g < w.heap.size) : (setBlk w g (.cells cs e (0, 0))).freeze ⟨g, 0, none⟩ k = setBlk w g (.cells cs e (0, k)) := by
  unfold World.freeze
  rw [if_neg hk]
  refine world_eq (heap_ext fun j => ?_) Z Z Z Z
  show ((w.heap.setIfInBounds g _).modify g _)[j]? = (w.heap.setIfInBounds g _)[j]?
  rw [Array.getElem?_modify]
  by_cases hj : g = j
  · subst hj
    rw [if_pos rfl, Array.getElem?_setIfInBounds_self, Array.getElem?_setIfInBounds_self]
    simp [hg]
  · rw [if_neg hj, Array.getElem?_setIfInBounds_ne hj, Array.getElem?_setIfInBounds_ne hj]
end
open Go Go.RowKit Go.Proofs.YtiljephghfngnaaGreatDoor
section
variable {P : Program} {TT : TyTab} {D n : Nat} {Q : APost} {fr : Fr} {L L' K : Hl} {s s' s0 : World} {ops : Array Oper} {rest : List Oper} {d ty : Nat} {op : Op} {pos : String} {af : Array Edge} {v : Value}
theorem Ev_ustr {tp ti0 e : Nat} {x y : Operand} {A : Option Addr} {l : List UInt8} {c : Nat} (X M L0 : Hl) (hp : P.underlying tp = some (.pointer e)) (hce : P.cellsOf e = 1) (hx : lk fr x = some (.pointer A)) (hy : lk fr y = some (.int .i64 (l.length : Int))) (hO : FL.Own e 1 M (.slice A l.length c) l.length (bv l)) (hn : l = [] → M = []) (ho : OKL D (X ++ (M ++ L0)) s) :
    ∃ s', Ev P TT D fr (.call { callee := .builtin .unsafeString, args := #[x, y], argTypes := #[tp, ti0] }) ty (X ++ (M ++ L0)) s (.value (St l)) (X ++ L0) s' ∧ Le D s s' := by
  by_cases h0 : l = []
  · subst h0
    have hM := hn rfl
    subst hM
    refine ⟨s, fun hT ho dst pos af g ρ hρ => ⟨?_, by simpa using ho⟩, Le.refl _⟩
    simp only [List.length_nil] at hy
    have hr := Lib.run_unsafeString_none (P := P) (fill (X ++ ([] ++ L0)) s) tp ti0 ty A
    simp [execOp, resolve, invoke, builtin, hρ x _ hx, hρ y _ hy]
    simp at hr
    rw [hr]
    rfl
  · have hl0 : l.length ≠ 0 := by simpa using h0
    obtain ⟨g, ys, hA, hM, g1, g2, g3, g4⟩ : ∃ g ys, A = some ⟨g, 0, none⟩ ∧ M = [(g, cb (bv l ++ ys) e)] ∧ (bv l).length = l.length ∧ (bv l).length + ys.length = c ∧ l.length ≤ c ∧ c ≤ 9223372036854775807 := own_blkQ hO O
    subst hA
    subst hM
    have hperm : (X ++ ([(g, cb (bv l ++ ys) e)] ++ L0)).Perm ((g, cb (bv l ++ ys) e) :: (X ++ L0)) := by simpa using List.perm_middle
    have ho2 := ho.perm hperm
    have hgs : g < s.heap.size := ho2.lt (List.mem_cons_self ..)
    have hgs2 : g < (fill (X ++ L0) s).heap.size := by rw [fill_size]; exact hgs
    have ho3 : OKL D ([(g, Obj.cells (bv l ++ ys).toArray e (0, l.length))] ++ (X ++ L0)) s := ⟨by simpa using ho2.nd, fun x hx => by
      rcases List.mem_cons.1 hx with rfl | hx
      · exact ho2.dm (g, cb (bv l ++ ys) e) (List.mem_cons_self ..)
      · exact ho2.dm x (List.mem_cons_of_mem _ hx)⟩
    obtain ⟨d1, d2, d3⟩ := drop_own ho3
    have hbl : (bv l).length = l.length := g1
    have hus := Lib.run_unsafeString_row (P := P) (fill (X ++ ([(g, cb (bv l ++ ys) e)] ++ L0)) s) tp ti0 ty e hp hce g ((bv l ++ ys).length) (shape_mem ho (by simp)) l h0 (by simp [hbl]) O (fun j x hx => by
      rw [add_lit, Nat.zero_add, mem_cell ho (zs := bv l ++ ys) (t := e) (by simp), List.getElem?_append_left (by rw [hbl]; exact (List.getElem?_eq_some_iff.1 hx).1)]
      simp [bv, hx])
    have hw : (fill (X ++ ([(g, cb (bv l ++ ys) e)] ++ L0)) s).freeze ⟨g, 0, none⟩ l.length = fill (X ++ L0) (fill [(g, Obj.cells (bv l ++ ys).toArray e (0, l.length))] s) := by
      rw [fill_perm hperm _ ho, ← d1]
      exact freeze_set (fill (X ++ L0) s) g e l.length (bv l ++ ys).toArray hl0 hgs2
    refine ⟨fill [(g, Obj.cells (bv l ++ ys).toArray e (0, l.length))] s, fun hT _ dst pos af gg ρ hρ => ⟨?_, d2⟩, d3⟩
    rw [hw] at hus
    simp only [execOp, resolve, invoke, builtin, Sem.run_bind, Sem.run_pure, Result.andThen_ok, List.map_toArray, List.map_cons, List.map_nil, hρ x _ hx, hρ y _ hy, hus]
theorem JB_ustr {i0 tp ti0 e : Nat} {g : Option (Nat × Bool)} {fuel : Nat} {listed : Array Bool} {x y : Operand} {A : Option Addr} {l : List UInt8} {c : Nat} (hi0 : ops[i0]? = some ⟨some d, .call { callee := .builtin .unsafeString, args := #[x, y], argTypes := #[tp, ti0] }, ty, pos, af, g⟩) (hgk : GOK ops fr g)
    (X M L0 : Hl) (hL : L = X ++ (M ++ L0)) (hp : P.underlying tp = some (.pointer e)) (hce : P.cellsOf e = 1) (hx : lk fr x = some (.pointer A)) (hy : lk fr y = some (.int .i64 (l.length : Int))) (hO : FL.Own e 1 M (.slice A l.length c) l.length (bv l)) (hn : l = [] → M = []) (hd : Nat.blt d n = true) (hK : ∀ x ∈ K, x ∈ X ++ (M ++ L0) → x ∈ X ++ L0)
    (kk : ∀ s', Le D s s' → JA P TT D n ops Q K s0 fuel (listed.setIfInBounds i0 true) ((d, St l) :: fr) (X ++ L0) s') : JB P TT D n ops Q K s0 fuel listed i0 fr L s := fun hT a hr ho hl0 hKL => by
  subst hL
  obtain ⟨s', h1, h2⟩ := Ev_ustr (ty := ty) X M L0 hp hce hx hy hO hn ho
  exact JB_ev hi0 hgk h1 h2 hK hd (kk s' h2) hT a hr ho hl0 hKL
end
end Go.FL
namespace Go.Proofs.YtiljephghfngnaaGreatDoor
open Go Go.FL
inductive Ex where
  | mk (kind op num : Int) (name : List UInt8) (args : List Ex)
inductive Stm where
  | mk (kind : Int) (name : List UInt8) (exprs : List Ex) (body els : List Stm)
def Ex.kind : Ex → Int | .mk k _ _ _ _ => k
def Ex.op : Ex → Int | .mk _ o _ _ _ => o
def Ex.num : Ex → Int | .mk _ _ n _ _ => n
def Ex.name : Ex → List UInt8 | .mk _ _ _ s _ => s
def Ex.args : Ex → List Ex | .mk _ _ _ _ l => l
def Stm.kind : Stm → Int | .mk k _ _ _ _ => k
def Stm.name : Stm → List UInt8 | .mk _ s _ _ _ => s
def Stm.exprs : Stm → List Ex | .mk _ _ l _ _ => l
def Stm.body : Stm → List Stm | .mk _ _ _ b _ => b
def Stm.els : Stm → List Stm | .mk _ _ _ _ e => e
structure Fnc where
  name : List UInt8
  params : List (List UInt8)
  locals : List (List UInt8)
  body : List Stm
structure Glo where
  kind : Int
  name : List UInt8
  num : Int
  init : List Int
structure Prg where
  globals : List Glo
  funcs : List Fnc
def ExR : Nat → World → Ex → List Value → Prop
  | 0, _, _, _ => False
  | d + 1, s, x, cs => ∃ A n c, cs = [.int .i64 x.kind, .int .i64 x.op, .int .u32 x.num, St x.name, .slice A n c] ∧ Sl 5 (ExR d) s A n c x.args ∧ U32 x.num ∧ x.name.length ≤ 9223372036854775807
def Exs (d : Nat) (s : World) (A : Option Addr) (n c : Nat) (l : List Ex) : Prop := Sl 5 (ExR d) s A n c l
def StR : Nat → World → Stm → List Value → Prop
  | 0, _, _, _ => False
  | d + 1, s, x, cs => ∃ A1 n1 c1 A2 n2 c2 A3 n3 c3, cs = [.int .i64 x.kind, St x.name, .slice A1 n1 c1, .slice A2 n2 c2, .slice A3 n3 c3] ∧ Exs d s A1 n1 c1 x.exprs ∧ Sl 5 (StR d) s A2 n2 c2 x.body ∧ Sl 5 (StR d) s A3 n3 c3 x.els ∧ x.name.length ≤ 9223372036854775807
def Stms (d : Nat) (s : World) (A : Option Addr) (n c : Nat) (l : List Stm) : Prop := Sl 5 (StR d) s A n c l
theorem ExR.le {D : Nat} {s s' : World} (hl : Le D s s') : ∀ {d : Nat} {x : Ex} {cs : List Value}, ExR d s x cs → ExR d s' x cs
  | 0, _, _, h => h
  | _ + 1, _, _, ⟨A, n, c, h1, h2, h3⟩ => ⟨A, n, c, h1, Sl.le (fun _ _ h => ExR.le hl h) h2 hl, h3⟩
theorem Exs.le {D d : Nat} {s s' : World} {A : Option Addr} {n c : Nat} {l : List Ex} (h : Exs d s A n c l) (hl : Le D s s') : Exs d s' A n c l := Sl.le (fun _ _ h => ExR.le hl h) h hl
theorem StR.le {D : Nat} {s s' : World} (hl : Le D s s') : ∀ {d : Nat} {x : Stm} {cs : List Value}, StR d s x cs → StR d s' x cs
  | 0, _, _, h => h
  | _ + 1, _, _, ⟨A1, n1, c1, A2, n2, c2, A3, n3, c3, h1, h2, h3, h4, h5⟩ => ⟨A1, n1, c1, A2, n2, c2, A3, n3, c3, h1, h2.le hl, Sl.le (fun _ _ h => StR.le hl h) h3 hl, Sl.le (fun _ _ h => StR.le hl h) h4 hl, h5⟩
theorem Stms.le {D d : Nat} {s s' : World} {A : Option Addr} {n c : Nat} {l : List Stm} (h : Stms d s A n c l) (hl : Le D s s') : Stms d s' A n c l := Sl.le (fun _ _ h => StR.le hl h) h hl
theorem Sl.imp {α : Type} {sz : Nat} {R R' : World → α → List Value → Prop} {s : World} {A : Option Addr} {n c : Nat} {l : List α} (hR : ∀ x cs, R s x cs → R' s x cs) (h : Sl sz R s A n c l) : Sl sz R' s A n c l :=
  ⟨h.1, h.2.1, h.2.2.1, fun i x hi => by
    obtain ⟨b, off, cs, h1, h2, h3, h4⟩ := h.2.2.2 i x hi
    exact ⟨b, off, cs, h1, h2, h3, hR x cs h4⟩⟩
theorem ExR.up {s : World} : ∀ {d e : Nat}, d ≤ e → ∀ {x : Ex} {cs : List Value}, ExR d s x cs → ExR e s x cs
  | 0, _, _, _, _, h => h.elim
  | d + 1, 0, h, _, _, _ => by omega
  | d + 1, e + 1, h, _, _, ⟨A, n, c, h1, h2, h3⟩ => ⟨A, n, c, h1, Sl.imp (fun _ _ k => ExR.up O k) h2, h3⟩
theorem Exs.up {s : World} {d e : Nat} {A : Option Addr} {n c : Nat} {l : List Ex} (h : Exs d s A n c l) (he : d ≤ e) : Exs e s A n c l := Sl.imp (fun _ _ k => ExR.up he k) h
theorem StR.up {s : World} : ∀ {d e : Nat}, d ≤ e → ∀ {x : Stm} {cs : List Value}, StR d s x cs → StR e s x cs
  | 0, _, _, _, _, h => h.elim
  | d + 1, 0, h, _, _, _ => by omega
  | d + 1, e + 1, h, _, _, ⟨A1, n1, c1, A2, n2, c2, A3, n3, c3, h1, h2, h3, h4, h5⟩ => ⟨A1, n1, c1, A2, n2, c2, A3, n3, c3, h1, h2.up O, Sl.imp (fun _ _ k => StR.up O k) h3, Sl.imp (fun _ _ k => StR.up O k) h4, h5⟩
theorem Stms.up {s : World} {d e : Nat} {A : Option Addr} {n c : Nat} {l : List Stm} (h : Stms d s A n c l) (he : d ≤ e) : Stms e s A n c l := Sl.imp (fun _ _ k => StR.up he k) h
theorem Exs.at_ {d : Nat} {s : World} {A : Option Addr} {n c k : Nat} {l : List Ex} (h : Exs d s A n c l) (hk : k < n) : ∃ e b off x A' n' c', d = e + 1 ∧ A = some ⟨b, off, none⟩ ∧ l[k]? = some x ∧ CellsAt s b (off + k * 5) [.int .i64 x.kind, .int .i64 x.op, .int .u32 x.num, St x.name, .slice A' n' c'] ∧ Exs e s A' n' c' x.args ∧ U32 x.num ∧ x.name.length ≤ 9223372036854775807 := by
  have hl : k < l.length := by rw [← h.1]; exact hk
  obtain ⟨b, off, cs, h1, h2, _, h4⟩ := h.2.2.2 k l[k] (List.getElem?_eq_getElem hl)
  cases d with
  | zero => exact h4.elim
  | succ e =>
    obtain ⟨A', n', c', rfl, h5, h6, h7⟩ := h4
    exact ⟨e, b, off, l[k], A', n', c', rfl, h1, List.getElem?_eq_getElem hl, h2, h5, h6, h7⟩
theorem Stms.at_ {d : Nat} {s : World} {A : Option Addr} {n c k : Nat} {l : List Stm} (h : Stms d s A n c l) (hk : k < n) : ∃ e b off x A1 n1 c1 A2 n2 c2 A3 n3 c3, d = e + 1 ∧ A = some ⟨b, off, none⟩ ∧ l[k]? = some x ∧ CellsAt s b (off + k * 5) [.int .i64 x.kind, St x.name, .slice A1 n1 c1, .slice A2 n2 c2, .slice A3 n3 c3] ∧ Exs e s A1 n1 c1 x.exprs ∧ Stms e s A2 n2 c2 x.body ∧ Stms e s A3 n3 c3 x.els ∧ x.name.length ≤ 9223372036854775807 := by
  have hl : k < l.length := by rw [← h.1]; exact hk
  obtain ⟨b, off, cs, h1, h2, _, h4⟩ := h.2.2.2 k l[k] (List.getElem?_eq_getElem hl)
  cases d with
  | zero => exact h4.elim
  | succ e =>
    obtain ⟨A1, n1, c1, A2, n2, c2, A3, n3, c3, rfl, h5, h6, h7, h8⟩ := h4
    exact ⟨e, b, off, l[k], A1, n1, c1, A2, n2, c2, A3, n3, c3, rfl, h1, List.getElem?_eq_getElem hl, h2, h5, h6, h7, h8⟩
def FnR (d : Nat) (s : World) (x : Fnc) (cs : List Value) : Prop := ∃ A1 n1 c1 A2 n2 c2 A3 n3 c3, cs = [St x.name, .slice A1 n1 c1, .slice A2 n2 c2, .slice A3 n3 c3] ∧ Strs s A1 n1 c1 x.params ∧ Strs s A2 n2 c2 x.locals ∧ Stms d s A3 n3 c3 x.body ∧ x.name.length ≤ 9223372036854775807
def Fncs (d : Nat) (s : World) (A : Option Addr) (n c : Nat) (l : List Fnc) : Prop := Sl 4 (FnR d) s A n c l
def GlR (s : World) (x : Glo) (cs : List Value) : Prop := ∃ A n c, cs = [.int .i64 x.kind, St x.name, .int .u32 x.num, .slice A n c] ∧ Wds s A n c x.init ∧ U32 x.num ∧ x.name.length ≤ 9223372036854775807
def Glos (s : World) (A : Option Addr) (n c : Nat) (l : List Glo) : Prop := Sl 4 GlR s A n c l
theorem FnR.le {D d : Nat} {s s' : World} {x : Fnc} {cs : List Value} (h : FnR d s x cs) (hl : Le D s s') : FnR d s' x cs := by
  obtain ⟨A1, n1, c1, A2, n2, c2, A3, n3, c3, h1, h2, h3, h4, h5⟩ := h
  exact ⟨A1, n1, c1, A2, n2, c2, A3, n3, c3, h1, h2.le hl, h3.le hl, h4.le hl, h5⟩
theorem Fncs.le {D d : Nat} {s s' : World} {A : Option Addr} {n c : Nat} {l : List Fnc} (h : Fncs d s A n c l) (hl : Le D s s') : Fncs d s' A n c l := Sl.le (fun _ _ h => h.le hl) h hl
theorem GlR.le {D : Nat} {s s' : World} {x : Glo} {cs : List Value} (h : GlR s x cs) (hl : Le D s s') : GlR s' x cs := by
  obtain ⟨A, n, c, h1, h2, h3⟩ := h
  exact ⟨A, n, c, h1, h2.le hl, h3⟩
theorem Glos.le {D : Nat} {s s' : World} {A : Option Addr} {n c : Nat} {l : List Glo} (h : Glos s A n c l) (hl : Le D s s') : Glos s' A n c l := Sl.le (fun _ _ h => h.le hl) h hl
theorem Fncs.at_ {d : Nat} {s : World} {A : Option Addr} {n c k : Nat} {l : List Fnc} (h : Fncs d s A n c l) (hk : k < n) : ∃ b off x A1 n1 c1 A2 n2 c2 A3 n3 c3, A = some ⟨b, off, none⟩ ∧ l[k]? = some x ∧ CellsAt s b (off + k * 4) [St x.name, .slice A1 n1 c1, .slice A2 n2 c2, .slice A3 n3 c3] ∧ Strs s A1 n1 c1 x.params ∧ Strs s A2 n2 c2 x.locals ∧ Stms d s A3 n3 c3 x.body ∧ x.name.length ≤ 9223372036854775807 := by
  have hl : k < l.length := by rw [← h.1]; exact hk
  obtain ⟨b, off, cs, h1, h2, _, A1, n1, c1, A2, n2, c2, A3, n3, c3, rfl, h5⟩ := h.2.2.2 k l[k] (List.getElem?_eq_getElem hl)
  exact ⟨b, off, l[k], A1, n1, c1, A2, n2, c2, A3, n3, c3, h1, List.getElem?_eq_getElem hl, h2, h5⟩
theorem Glos.at_ {s : World} {A : Option Addr} {n c k : Nat} {l : List Glo} (h : Glos s A n c l) (hk : k < n) : ∃ b off x A' n' c', A = some ⟨b, off, none⟩ ∧ l[k]? = some x ∧ CellsAt s b (off + k * 4) [.int .i64 x.kind, St x.name, .int .u32 x.num, .slice A' n' c'] ∧ Wds s A' n' c' x.init ∧ U32 x.num ∧ x.name.length ≤ 9223372036854775807 := by
  have hl : k < l.length := by rw [← h.1]; exact hk
  obtain ⟨b, off, cs, h1, h2, _, A', n', c', rfl, h5⟩ := h.2.2.2 k l[k] (List.getElem?_eq_getElem hl)
  exact ⟨b, off, l[k], A', n', c', h1, List.getElem?_eq_getElem hl, h2, h5⟩
def kwords : List Str := [[97, 114, 114, 97, 121], [98, 114, 101, 97, 107], [99, 111, 110, 115, 116], [99, 111, 110, 116, 105, 110, 117, 101], [101, 108, 115, 101], [102, 117, 110, 99], [103, 101, 116], [105, 102], [112, 117, 116], [114, 101, 116, 117, 114, 110], [115, 116, 111, 112], [118, 97, 114], [119, 104, 105, 108, 101]]
def kwB (s : Str) : Bool := kwords.any fun w => decide (w = s)
def identB (s : Str) : Bool := (decide (s ≠ []) && decide ((s.length : Int) ≤ 12) && charsFrom 0 s) && !kwB s
def gloC (g : Glo) : Int := if g.kind < 1 ∨ 3 < g.kind then 5 else if identB g.name = false then 7 else if (g.kind ≠ 3 ∧ g.init ≠ []) ∨ (g.kind = 2 ∧ g.num ≠ 0) then 6 else if g.kind = 3 ∧ (g.num < 1 ∨ 40000 < g.num) then 4 else if g.kind = 3 ∧ g.num < (g.init.length : Int) then 2 else 0
def namedE (k : Int) : Bool := decide (2 ≤ k ∧ k ≤ 4)
def leastE (k : Int) : Nat := if k = 3 ∨ k = 6 then 1 else if k = 7 then 2 else 0
def mostE (k : Int) : Nat := if k = 3 ∨ k = 6 then 1 else if k = 4 then 6 else if k = 7 then 2 else 0
def exC (k o n : Int) (nm : Str) (na : Nat) : Int := if k < 1 ∨ 7 < k ∨ (k = 6 ∧ (o < 1 ∨ 3 < o)) ∨ (k = 7 ∧ (o < 4 ∨ 21 < o)) then 5 else if namedE k = true ∧ identB nm = false then 7 else if (namedE k = false ∧ nm ≠ []) ∨ (k ≠ 1 ∧ n ≠ 0) ∨ (k < 6 ∧ o ≠ 0) ∨ na < leastE k ∨ mostE k < na then 6 else 0
def namedS (k : Int) : Bool := decide (k = 1) || decide (k = 2) || decide (k = 5)
def leastS (k : Int) : Nat := if k = 2 then 2 else if k = 5 ∨ 8 < k then 0 else 1
def mostS (k : Int) : Nat := if k = 2 then 2 else if k = 5 then 6 else if 8 < k then 0 else 1
def stC (k : Int) (nm : Str) (ne nb nl : Nat) : Int := if k < 1 ∨ 10 < k then 5 else if namedS k = true ∧ identB nm = false then 7 else if (namedS k = false ∧ nm ≠ []) ∨ ne < leastS k ∨ mostS k < ne ∨ (0 < nb ∧ k ≠ 3 ∧ k ≠ 4) ∨ (0 < nl ∧ k ≠ 3) then 6 else 0
mutual
def wkX : Ex → Nat → Nat → Nat × Int
  | .mk k o n nm az, lv, c => if 16 < lv ∨ 2000 < c + 1 then (c + 1, 2) else if exC k o n nm az.length ≠ 0 then (c + 1, exC k o n nm az.length) else wkXs az (lv + 1) (c + 1)
def wkXs : List Ex → Nat → Nat → Nat × Int
  | [], _, c => (c, 0)
  | x :: r, lv, c => if (wkX x lv c).2 ≠ 0 then wkX x lv c else wkXs r lv (wkX x lv c).1
end
mutual
def wkS : Stm → Nat → Nat → Nat × Int
  | .mk k nm es b e, lv, c => if 16 < lv ∨ 2000 < c + 1 then (c + 1, 2) else if stC k nm es.length b.length e.length ≠ 0 then (c + 1, stC k nm es.length b.length e.length)
    else if (wkXs es 1 (c + 1)).2 ≠ 0 then wkXs es 1 (c + 1) else if (wkSs b (lv + 1) (wkXs es 1 (c + 1)).1).2 ≠ 0 then wkSs b (lv + 1) (wkXs es 1 (c + 1)).1 else wkSs e (lv + 1) (wkSs b (lv + 1) (wkXs es 1 (c + 1)).1).1
def wkSs : List Stm → Nat → Nat → Nat × Int
  | [], _, c => (c, 0)
  | x :: r, lv, c => if (wkS x lv c).2 ≠ 0 then wkS x lv c else wkSs r lv (wkS x lv c).1
end
def fnC (x : Fnc) (c : Nat) : Nat × Int := if identB x.name = false then (c, 7) else if 6 < x.params.length ∨ 12 < x.locals.length then (c, 2) else if (x.params ++ x.locals).any (fun s => !identB s) = true then (c, 7) else wkSs x.body 1 c
def strg (o : Int) : Int := if o = 21 then 1 else if o = 20 then 2 else if 14 ≤ o ∧ o ≤ 19 then 3 else if 10 ≤ o ∧ o ≤ 13 then 4 else 5
def signL : List Str := [[], [33], [45], [126], [42], [47], [37], [60, 60], [62, 62], [38], [43], [45], [124], [94], [61, 61], [33, 61], [60], [60, 61], [62], [62, 61], [38, 38], [124, 124]]
def sgnT (o : Int) : Str := signL.getD o.toNat []
def commaW : List Str → Str
  | [] => []
  | [x] => x
  | x :: y :: r => x ++ 44 :: 32 :: commaW (y :: r)
def outers (k o : Int) : List Int := if k = 6 then [9] else if k = 7 then [strg o, strg o + 1] else []
def exW (k o n : Int) (nm : Str) (az : List Str) (out : Int) : Str := if k = 1 then decS n else if k = 2 then nm else if k = 3 then nm ++ [91] ++ commaW az ++ [93] else if k = 4 then nm ++ [40] ++ commaW az ++ [41] else if k = 5 then [103, 101, 116] else if k = 6 then sgnT o ++ az.getD 0 []
  else if strg o < out then [40] ++ (az.getD 0 [] ++ [32] ++ sgnT o ++ [32] ++ az.getD 1 []) ++ [41] else az.getD 0 [] ++ [32] ++ sgnT o ++ [32] ++ az.getD 1 []
mutual
def exT : Ex → Int → Str
  | .mk k o n nm az, out => exW k o n nm (exTs az (outers k o)) out
def exTs : List Ex → List Int → List Str
  | [], _ => []
  | x :: r, os => exT x (os.headD 0) :: exTs r os.tail
end
def margin : Nat → Str
  | 0 => []
  | n + 1 => margin n ++ [32, 32]
def stW0 (k : Int) (nm : Str) (es : List Str) : Str := if k = 1 then nm ++ [32, 61, 32] ++ es.getD 0 [] ++ [59, 10] else if k = 2 then nm ++ [91] ++ es.getD 0 [] ++ [93, 32, 61, 32] ++ es.getD 1 [] ++ [59, 10] else if k = 5 then nm ++ [40] ++ commaW es ++ [41, 59, 10]
  else (if k = 6 then [114, 101, 116, 117, 114, 110, 32] else if k = 7 then [112, 117, 116, 32] else if k = 8 then [115, 116, 111, 112, 32] else if k = 9 then [98, 114, 101, 97, 107] else [99, 111, 110, 116, 105, 110, 117, 101]) ++ commaW es ++ [59, 10]
def isIf : List Stm → Bool
  | [.mk k _ _ _ _] => decide (k = 3)
  | _ => false
mutual
def stT : Stm → Nat → Str
  | .mk k nm es b e, lv => if k = 3 ∨ k = 4 then
      (if k = 3 then [105, 102] else [119, 104, 105, 108, 101]) ++ [32, 40] ++ (exTs es []).getD 0 [] ++ [41, 32, 123, 10] ++ stTs b (lv + 1) ++ margin lv ++ [125] ++
        (if e.isEmpty = true then [10] else if isIf e = true then [32, 101, 108, 115, 101, 32] ++ st1 e lv else [32, 101, 108, 115, 101, 32, 123, 10] ++ stTs e (lv + 1) ++ margin lv ++ [125, 10])
    else stW0 k nm (exTs es [])
def stTs : List Stm → Nat → Str
  | [], _ => []
  | x :: r, lv => margin lv ++ stT x lv ++ stTs r lv
def st1 : List Stm → Nat → Str
  | [], _ => []
  | x :: _, lv => stT x lv
end
def gloT (g : Glo) : Str := (if g.kind = 1 then [99, 111, 110, 115, 116, 32] ++ g.name ++ [32, 61, 32] ++ decS g.num else if g.kind = 2 then [118, 97, 114, 32] ++ g.name
  else [97, 114, 114, 97, 121, 32] ++ g.name ++ [91] ++ decS g.num ++ [93] ++ (if g.init = [] then [] else [32, 61, 32] ++ commaW (g.init.map decS))) ++ [59, 10]
def fncT (x : Fnc) : Str := [102, 117, 110, 99, 32] ++ x.name ++ [40] ++ commaW x.params ++ [41, 32, 123, 10] ++ (if x.locals = [] then [] else [32, 32, 118, 97, 114, 32] ++ commaW x.locals ++ [59, 10]) ++ stTs x.body 1 ++ [125, 10]
def prgT (p : Prg) : Str := (p.globals.map gloT).flatten ++ (p.funcs.map fncT).flatten
def fnF : List Fnc → Nat → Nat → Int × Int
  | [], _, _ => (0, 0)
  | x :: r, i, c => if (fnC x c).2 ≠ 0 then ((fnC x c).2, (i : Int)) else fnF r (i + 1) (fnC x c).1
def glF : List Glo → Nat → Int × Int
  | [], _ => (0, 0)
  | g :: r, i => if gloC g ≠ 0 then (gloC g, (i : Int)) else glF r (i + 1)
def shapeF (p : Prg) : Int × Int := if 64 < p.globals.length ∨ 64 < p.funcs.length then (2, -1) else if (glF p.globals 0).1 ≠ 0 then glF p.globals 0 else if 1000 < (p.globals.map fun g => g.init.length).sum then (2, -1) else fnF p.funcs p.globals.length 0
def prgF (p : Prg) : Int × Int := if (shapeF p).1 ≠ 0 then shapeF p else if 12000 < (prgT p).length then (14, -1) else (0, 0)
def smallP : Prg := ⟨[⟨1, [110], 3, []⟩], [⟨[109, 97, 105, 110], [], [], [.mk 7 [] [.mk 7 10 0 [] [.mk 5 0 0 [] [], .mk 7 4 0 [] [.mk 2 0 0 [110] [], .mk 1 0 2 [] []]]] [] []]⟩]⟩
def smallT : Str := [99, 111, 110, 115, 116, 32, 110, 32, 61, 32, 51, 59, 10, 102, 117, 110, 99, 32, 109, 97, 105, 110, 40, 41, 32, 123, 10, 32, 32, 112, 117, 116, 32, 103, 101, 116, 32, 43, 32, 110, 32, 42, 32, 50, 59, 10, 125, 10]
theorem small_T : prgT smallP = smallT := by decide +kernel
theorem small_F : prgF smallP = (0, 0) := by decide +kernel
open Go.FL
attribute [local irreducible] JC JO JA JB thenQ blockQ retQ AC fill CellsAt QE Ev Mid
theorem isWord1_ac (D : Nat) (L : Hl) (s : World) (r : Int) : AC Tryz.prog D 110 [.int .i32 r] L s fun v L' _ => v = .bool (decide ((r < 97 ∨ 122 < r) ∧ (r < 48 ∨ 57 < r))) ∧ L = L' := by
 refine AC_enter (TT := TT) (fn := Tryz.f110) TT_ok Tryz.func110 V Z Tryz.ntmps110 Z (rs := [.tmp 2]) Z [(0, _)] Z <| Sr <| At Z Z <| Sr <| Zqm Z Z <| Zqlt Z Z Z <| Zqm Z Z <| ?_
 refine JO_caseD (t := 5) Z (fun c1 => ?_) (fun c1 => ?_)
 ·
  refine Wf Y4 <| Wf Y4 <| ZqT Z Z Z <| Zqm Z Z <| Zg Z Z <| Zqm Z Z <| Zg Z Z <| Zqlt Z Z Z <| Zg Z Z <| Zqm Z Z <| ?_
  refine JO_caseD (t := 12) Z (fun c2 => ?_) (fun c2 => ?_)
  ·
   refine Wf Y4 <| Wf Y4 <| Zg Z Z <| ZqT Z Z Z <| ZqT Z Z Z <| At Z Z <| Zo <| ?_
   refine retQ_mk [] L (.inr Z) (.tmp Z (.nil)) Z (Lr D) (fun sR hS2 => ?_)
   exact ⟨by simp_all [resV] <;> omega, rfl⟩
  refine Zg Z Z <| Zqm Z Z <| Zg Z Z <| Zqgt Z Z Z <| Zg Z Z <| ZqF Z Z Z <| ZqT Z Z Z <| At Z Z <| Zo <| ?_
  refine retQ_mk [] L (.inr Z) (.tmp Z (.nil)) Z (Lr D) (fun sR hS2 => ?_)
  exact ⟨by simp_all [resV] <;> omega, rfl⟩
 refine Zg Z Z <| Zqm Z Z <| Zg Z Z <| Zqgt Z Z Z <| ZqF Z Z Z <| Zqm Z Z <| ?_
 refine JO_caseD (t := 9) Z (fun c3 => ?_) (fun c3 => ?_)
 ·
  refine Zg Z Z <| Zqm Z Z <| Zg Z Z <| Zqlt Z Z Z <| Zg Z Z <| Zqm Z Z <| ?_
  refine JO_caseD (t := 12) Z (fun c4 => ?_) (fun c4 => ?_)
  ·
   refine Wf Y4 <| Wf Y4 <| Zg Z Z <| ZqT Z Z Z <| ZqT Z Z Z <| At Z Z <| Zo <| ?_
   refine retQ_mk [] L (.inr Z) (.tmp Z (.nil)) Z (Lr D) (fun sR hS2 => ?_)
   exact ⟨by simp_all [resV] <;> omega, rfl⟩
  refine Zg Z Z <| Zqm Z Z <| Zg Z Z <| Zqgt Z Z Z <| Zg Z Z <| ZqF Z Z Z <| ZqT Z Z Z <| At Z Z <| Zo <| ?_
  refine retQ_mk [] L (.inr Z) (.tmp Z (.nil)) Z (Lr D) (fun sR hS2 => ?_)
  exact ⟨by simp_all [resV] <;> omega, rfl⟩
 refine Wf Y4 <| Wf Y4 <| Wf Y4 <| Zh Z Z Z <| Zh Z Z Z <| Wf Y4 <| ZqF Z Z Z <| At Z Z <| Zo <| ?_
 refine retQ_mk [] L (.inr Z) (.tmp Z (.nil)) Z (Lr D) (fun sR hS2 => ?_)
 exact ⟨by simp_all [resV] <;> omega, rfl⟩
end Go.Proofs.YtiljephghfngnaaGreatDoor
namespace Go.Proofs.YtiljephghfngnaaGreatDoor
open Go Go.FL Go.RowKit
section
variable (D : Nat) (L : Hl) (s : World)
theorem fnok_contains : FnOK Tryz.prog 109 := ⟨_, Tryz.func109, by kernel_rfl, by kernel_rfl⟩
theorem fnok_repeat : FnOK Tryz.prog 101 := ⟨_, Tryz.func101, by kernel_rfl, by kernel_rfl⟩
def badC (c : UInt8) : Bool := !(letB c || digB c)
def badR (x : Nat) : Bool := decide (((x : Int) < 97 ∨ 122 < (x : Int)) ∧ ((x : Int) < 48 ∨ 57 < (x : Int)))
theorem badR_badC (c : UInt8) : badR c.toNat = badC c := by
  simp only [badR, badC, letB, digB]
  rw [Bool.eq_iff_iff]
  simp only [decide_eq_true_eq, Bool.not_eq_true', Bool.or_eq_false_iff, Bool.and_eq_false_iff, decide_eq_false_iff_not]
  omega
theorem idx_any (l : List UInt8) (f pos : Nat) (h : l.length ≤ pos + f) : decide (0 ≤ Lib.idxFuncFrom badR true ⟨l.toArray⟩ f pos) = (l.drop pos).any badC := by
  have hsz : (⟨l.toArray⟩ : ByteArray).size = l.length := by simp [Lib.size_eq]
  induction f generalizing pos with
  | zero => rw [List.drop_of_length_le O]; rfl
  | succ f ih =>
    by_cases hp : pos < (⟨l.toArray⟩ : ByteArray).size
    · obtain ⟨c, hc, hg⟩ := ba_get hp
      have hd : l.drop pos = c :: l.drop (pos + 1) := by
        obtain ⟨h1, h2⟩ := List.getElem?_eq_some_iff.1 hc
        rw [List.drop_eq_getElem_cons h1, h2]
      rw [hd, List.any_cons]
      by_cases ha : c.toNat < 128
      · have e := decode_ascii ⟨l.toArray⟩ pos hp (by rw [hg]; exact ha)
        simp only [Lib.idxFuncFrom, hp, if_true, e, hg, badR_badC]
        cases hb : badC c with
        | true => simp
        | false => simpa using ih (pos + 1) O
      · have e := (decode_high ⟨l.toArray⟩ pos hp (by rw [hg]; omega)).1
        have hb : badC c = true := by rw [← badR_badC]; simp only [badR, decide_eq_true_eq]; omega
        have hr : badR (Utf8.decode ⟨l.toArray⟩ pos).1 = true := by simp only [badR, decide_eq_true_eq]; omega
        simp only [Lib.idxFuncFrom, hp, if_true, hr, hb]
        simp
    · rw [Lib.idxFuncFrom_end _ _ _ _ _ hp, List.drop_of_length_le O]; rfl
theorem enters_name : ∀ args w, (callFunc 110 args).run Tryz.prog w = .ok (.enter 110 args) w := enters_of Tryz.func110 V rfl
theorem contains_ac (l : List UInt8) : AC Tryz.prog D 109 [St l, .func (.func 110) #[] #[]] L s fun v L' _ => v = .bool (l.any badC) ∧ L = L' :=
  AC.of_calls fnok_contains fun _ => by
    refine (Any.strings_ContainsFunc_grows Tryz.laysGw17 110 #[] enters_name badR ⟨l.toArray⟩ (fill L s) (fun W x _ _ => ?_)).mono ?_
    · exact calls_of_AC (args := [.int .i32 (x : Int)]) fun D => isWord1_ac D [] W x
    · rintro e w' ⟨he, hb⟩
      refine ⟨_, he, hb, fun s' _ _ _ => ⟨?_, Z⟩⟩
      have := idx_any l (⟨l.toArray⟩ : ByteArray).size 0 (by simp [Lib.size_eq])
      rw [List.drop_zero] at this
      rw [← this]; rfl
theorem joinS_ac (A : Option Addr) (n c : Nat) (ws : List (List UInt8)) (hS : Strs s A n c ws) (sep : List UInt8) (hlen : (Lib.join ws sep).length ≤ 140737488355328) (hn : ws.length ≤ 140737488355328) : AC Tryz.prog D 46 [.slice A n c, St sep] L s fun v L' _ => v = St (Lib.join ws sep) ∧ L = L' := by
  obtain rfl := hS.1
  by_cases h0 : ws = []
  · subst h0
    refine AC.of_calls fnok_join fun _ => (Any.strings_Join_none Tryz.lays156 Tryz.Builder_Extra_156 A c ⟨sep.toArray⟩ (fill L s)).mono fun e w' ⟨he, hw⟩ => ?_
    exact ⟨_, he, by rw [hw]; exact below_refl _, fun s' _ _ _ => ⟨rfl, rfl⟩⟩
  · obtain ⟨x, r, rfl⟩ : ∃ x r, ws = x :: r := by cases ws with
      | nil => exact absurd rfl h0
      | cons x r => exact ⟨x, r, rfl⟩
    obtain ⟨b, off, cs, hA, hc, _, rfl, _⟩ := hS.2.2.2 0 x rfl
    subst hA
    have hmap : ((x :: r).map fun x => (⟨x.toArray⟩ : ByteArray)).map (·.data.toList) = x :: r := by
      rw [List.map_map]; exact List.map_id'' (fun _ => rfl) _
    refine AC.of_calls fnok_join fun ho => ?_
    have hbk : b < (fill L s).heap.size := by rw [fill_size]; exact cell_lt (hc 0 (St x) rfl)
    have := Any.strings_Join Tryz.lays156 Tryz.Builder_Extra_156 b off c ((x :: r).map fun x => (⟨x.toArray⟩ : ByteArray)) ⟨sep.toArray⟩ (fill L s) (strs_cells D s hS (fill_le ho) rfl) hbk (by rw [List.length_map]; exact hn) (by rw [List.length_map]; exact hS.2.1) (by rw [hmap]; exact hlen)
    rw [List.length_map, hmap] at this
    refine this.mono fun e w' ⟨he, hb⟩ => ⟨_, he, hb, fun s' _ _ _ => ⟨Z, Z⟩⟩
theorem fieldsC_ac (hG : GP s) (l : List UInt8) (ws : List (List UInt8)) (hf : Lib.fields l = ws) (ha : l.all (fun b => decide (b.toNat < 128)) = true) (hl : l.length ≤ 4000000) : AC Tryz.prog D 41 [St l] L s fun v L' _ => ∃ β, L' = (β, cb (sb ws) 9) :: L ∧ v = .slice (some ⟨β, 0, none⟩) ws.length ws.length :=
  ⟨fnok_sfields, fun ho => by
    have hsz : (⟨l.toArray⟩ : ByteArray).size = l.length := by simp [Lib.size_eq]
    refine (Any.strings_Fields Tryz.lays157 V V ⟨l.toArray⟩ (fill L s) O (fun j b hj => ?_) (asc_of (hG.le (fill_le ho)))).mono ?_
    · have hm : b ∈ l := List.mem_of_getElem? (by simpa using hj)
      exact of_decide_eq_true (List.all_eq_true.1 ha b hm)
    · rintro e w' ⟨he, hw⟩
      have hf : Lib.fields (⟨l.toArray⟩ : ByteArray).data.toList = ws := hf
      obtain ⟨h1, h2, h3⟩ := alloc_fill ho (cb (sb ws) 9)
      refine ⟨_, _, _, he, ?_, h2, h3, s.heap.size, Z, ?_⟩
      · rw [hw, hf, ← h1]; rfl
      · rw [hf, fill_size]⟩
theorem repeat_ac (l : List UInt8) (n : Nat) (h1 : n ≤ 9223372036854775807) (h2 : l.length * n ≤ 140737488355328) : AC Tryz.prog D 101 [St l, .int .i64 (n : Int)] L s fun v L' _ => v = St (Lib.repeatL l n) ∧ L = L' :=
  AC.of_calls fnok_repeat fun _ => by
    refine (Any.strings_Repeat Tryz.lays105 Tryz.Builder_Extra_105 ⟨l.toArray⟩ n (fill L s) h1 (by simpa [Lib.size_eq] using h2)).mono ?_
    rintro e w' ⟨he, hb⟩
    exact ⟨_, he, hb, fun s' _ _ _ => ⟨rfl, rfl⟩⟩
end
open Go.FL
attribute [local irreducible] JC JO JA JB thenQ blockQ retQ AC fill CellsAt QE Ev Mid
theorem fmtU0_ac (D : Nat) (L : Hl) (s : World) (hG : GW s) (u : Nat) (hu : u < 4294967296) : AC Tryz.prog D 103 [.int .u64 (u : Int), .int .i64 10] L s fun v L' _ => v = St (Lib.decDigits u) ∧ L = L' := by
 refine AC_enter (TT := TT) (fn := Tryz.f103) TT_ok Tryz.func103 V Z Tryz.ntmps103 Z (rs := [.tmp 4]) Z [(0, _), (1, _)] Z <| Sr <| At Z Z <| Zs <| Sr <| Zqm Z Z <| Zqeq Z Z Z <| Nt <| ?_
 refine JC_ifD Z (fun c1 => ?_) (fun c1 => ?_)
 ·
  refine Zs <| Sr <| Zqm Z Z <| Zqlt Z Z Z <| Nt <| ?_
  refine JC_ifD Z (fun c2 => ?_) (fun c2 => ?_)
  ·
   refine Sr <| Zqm Z Z <| JO_q (QE_conv' Z Z Z Z Z (w64 O O)) Z <| Jc Z Z Z (small_ac D _ _ u O) ?_
   rintro _ _ s3 h3 ⟨rfl, rfl⟩
   refine At Z Z <| Zo <| Zu <| Zu <| ?_
   refine retQ_mk [] L (.inr Z) (.tmp Z (.nil)) Z h3 (fun sR hS2 => ?_)
   exact ⟨rfl, rfl⟩
  refine Zk <| Zt <| Sr <| JO_allocZ Z [_, _, _, _, _, _, _, _, _, _, _, _, _, _, _, _, _, _, _, _, _, _, _, _] Z Z ?_
  intro β4 s4 h4
  refine Nt <| Sr <| Zqm Z Z <| Jc Z Z Z (nd_ac D _ _ (hG.le h4) u O hu) ?_
  rintro _ _ s5 h5 ⟨rfl, rfl⟩
  refine At Z Z <| Sr <| Zqm Z Z <| JO_q (QE_slA Z Z Z Z Z (by have := nd_le hu; omega)) Z <| Zqm Z Z <| Jc Z Z Z (format_ac D _ _ u hu _ _) ?_
  rintro _ _ s6 h6 ⟨rfl, ys, rfl, hys⟩
  refine Nt <| Zs <| JC_pubX [] [_] _ ?_
  intro s7 h7 hpub7
  simp only [cQ9, nQ9]
  have hbt := bts_pub (l := Lib.decDigits u) (hpub7 _ _ _ (List.mem_cons_self ..)) hys O
  rw [Lib.decDigits_length] at hbt
  refine Zr <| Zqm Z Z <| JO_q (QE_slA Z Z Z Z Z (by have := nd_le hu; omega)) Z <| JO_q (QE_b2s Z Z Z Z Z Z Z (hbt.le (Lr D))) Z <| At Z Z <| Zo <| Zu <| ?_
  refine retQ_mk [] L (.inr Z) (.tmp Z (.nil)) Z (h4.t h5|>.t h6|>.t h7) (fun sR hS2 => ?_)
  exact ⟨rfl, rfl⟩
 exact absurd rfl c1 --end
theorem fmtU_ac (D : Nat) (L : Hl) (s : World) (hG : GW s) (u : Nat) (hu : u < 4294967296) : AC Tryz.prog D 74 [.int .u64 (u : Int), .int .i64 10] L s fun v L' _ => v = St (Lib.decDigits u) ∧ L = L' := by
 refine AC_enter (TT := TT) (fn := Tryz.f74) TT_ok Tryz.func74 V Z Tryz.ntmps74 Z (rs := [.tmp 4]) Z [(0, _), (1, _)] Z <| Sr <| At Z Z <| Sr <| Zqm Z Z <| Zqm Z Z <| Jc Z Z Z (fmtU0_ac D _ _ (hG.le (Lr D)) u hu) ?_
 rintro _ _ s1 h1 ⟨rfl, rfl⟩
 refine At Z Z <| Zo <| ?_
 refine retQ_mk [] L (.inr Z) (.tmp Z (.nil)) Z h1 (fun sR hS2 => ?_)
 exact ⟨rfl, rfl⟩
theorem hd_tl {α : Type} {l : List α} {x : α} (h : l[0]? = some x) : ∃ r, l = x :: r := by
  cases l with
  | nil => cases h
  | cons y r => simp at h; subst h; exact ⟨r, rfl⟩
theorem chars_any {l : List UInt8} {i : Nat} (hi : i ≠ 0) : charsFrom i l = !l.any badC := by
  induction l generalizing i with
  | nil => rfl
  | cons c l ih =>
    simp only [charsFrom, List.any_cons, ih (by omega : i + 1 ≠ 0), chOK, badC, hi, ne_eq, not_false_eq_true, decide_true, Bool.and_true, Bool.not_or]
    cases letB c <;> cases digB c <;> rfl
def wordOK (l : List UInt8) : Bool := decide (l ≠ []) && charsFrom 0 l
theorem word_good {l : List UInt8} {c : UInt8} (h : l[0]? = some c) (hc : ¬ ((c.toNat : Int) < 97) ∧ ¬ (122 < (c.toNat : Int))) : wordOK l = !l.any badC := by
  obtain ⟨r, rfl⟩ := hd_tl h
  have hl : letB c = true := by simp only [letB, Bool.and_eq_true, decide_eq_true_eq]; omega
  have hb : badC c = false := by simp [badC, hl]
  simp only [wordOK, charsFrom, chOK, hl, Bool.true_or, Bool.true_and, List.any_cons, hb, Bool.false_or, chars_any (l := r) (i := 0 + 1) O]
  simp
theorem word_not {l : List UInt8} {c : UInt8} (h : l[0]? = some c) (hc : (c.toNat : Int) < 97 ∨ 122 < (c.toNat : Int)) : wordOK l = false := by
  obtain ⟨r, rfl⟩ := hd_tl h
  have hl : letB c = false := by rw [Bool.eq_false_iff]; simp only [letB, ne_eq, Bool.and_eq_true, decide_eq_true_eq]; omega
  simp [wordOK, charsFrom, chOK, hl]
theorem ident_word (l : List UInt8) : identB l = (wordOK l && decide ((l.length : Int) ≤ 12) && !kwB l) := by
  unfold identB wordOK
  cases decide (l ≠ []) <;> cases decide ((l.length : Int) ≤ 12) <;> cases charsFrom 0 l <;> simp
def kwT : Str := [97, 114, 114, 97, 121, 32, 98, 114, 101, 97, 107, 32, 99, 111, 110, 115, 116, 32, 99, 111, 110, 116, 105, 110, 117, 101, 32, 101, 108, 115, 101, 32, 102, 117, 110, 99, 32, 103, 101, 116, 32, 105, 102, 32, 112, 117, 116, 32, 114, 101, 116, 117, 114, 110, 32, 115, 116, 111, 112, 32, 118, 97, 114, 32, 119, 104, 105, 108, 101]
def sgT : Str := [33, 32, 45, 32, 126, 32, 42, 32, 47, 32, 37, 32, 60, 60, 32, 62, 62, 32, 38, 32, 43, 32, 45, 32, 124, 32, 94, 32, 61, 61, 32, 33, 61, 32, 60, 32, 60, 61, 32, 62, 32, 62, 61, 32, 38, 38, 32, 124, 124]
theorem kw_flds : Lib.fields kwT = kwords := by decide +kernel
theorem sg_flds : Lib.fields sgT = signL.tail := by decide +kernel
theorem kw_any (l : Str) : decide (0 ≤ idxOf (fun x => decide (l = x)) kwords 0) = kwB l := by
  rw [idxOf_any, kwB]; congr 1; funext w; exact decide_eq_decide.2 eq_comm
theorem all2_mapS {α β : Type} {R : α → β → Prop} (f : α → β) (l : List α) (h : ∀ x ∈ l, R x (f x)) : All2 R l (l.map f) := by
  induction l with
  | nil => exact All2.nil
  | cons x l ih => exact All2.cons (h x (List.mem_cons_self ..)) (ih fun y hy => h y (List.mem_cons_of_mem _ hy))
theorem sb_flat (l : List Str) : (l.map fun x => [St x]).flatten = sb l := by
  induction l with
  | nil => rfl
  | cons x r ih => show [St x] ++ (r.map fun x => [St x]).flatten = St x :: sb r; rw [ih]; rfl
theorem fieldsP_ac (D : Nat) (L : Hl) (s : World) (hG : GP s) (l : List UInt8) (ws : List Str) (hf : Lib.fields l = ws) (ha : l.all (fun b => decide (b.toNat < 128)) = true) (hl : l.length ≤ 4000000) (hn : ws.length ≤ 1000) (hx : ∀ x ∈ ws, x.length ≤ 1000) : AC Tryz.prog D 41 [St l] L s fun v L' s' => L = L' ∧ ∃ A n c, v = .slice A n c ∧ Strs s' A n c ws :=
  AC.pubW ((fieldsC_ac D L s hG l ws hf ha hl).mono fun v L' s' _ ⟨β, h1, h2⟩ => ⟨[_], h1, fun s2 h3 hp => ⟨_, _, _, h2, by
    exact Sl.lit (R := fun _ x cs => cs = [St x] ∧ x.length ≤ 9223372036854775807) (ws.map fun x => [St x]) (hp _ _ _ (List.mem_cons_self ..)) (sb_flat ws) (all2_mapS (fun x => [St x]) ws fun x hx1 => ⟨rfl, rfl, by have := hx x hx1; omega⟩) _ rfl O⟩⟩)
theorem sidx_ac (D : Nat) (L : Hl) (s : World) (A : Option Addr) (n c : Nat) (l : List (List UInt8)) (hA : Strs s A n c l) (w : List UInt8) : AC Tryz.prog D 69 [.slice A n c, St w] L s fun v L' _ => v = .int .i64 (idxOf (fun x => decide (w = x)) l 0) ∧ L = L' := by
 have hn := hA.1
 have hc1 := hA.2.1
 have hc2 := hA.2.2.1
 refine AC_enter (TT := TT) (fn := Tryz.f69) TT_ok Tryz.func69 V Z Tryz.ntmps69 Z (rs := [.tmp 4]) Z [(0, _), (1, _)] Z <| Sr <| At Z Z <| Zs <| Sr <| Zqm Z Z <| Ws Y4 <| Zqm Z Z <| Nt <| Zp <| ?_
 refine JC_loop (γ := Nat) (fun k => [(0, _), (1, _), (4, _), (7, _), (8, .int .i64 (k : Int))]) (fun _ => _) (fun k tw => Le D s tw ∧ (k ≤ n ∧ ∀ i x, i < k → l[i]? = some x → decide (w = x) = false)) (fun k => n - k) (fun _ _ _ h hl => ⟨h.1.trans hl, h.2⟩) 0 (.cons Z (.cons Z (.cons Z (.cons Z (.cons Z (.nil _)))))) Z ⟨Le.refl _, ⟨Nat.zero_le _, fun i x hi => by omega⟩⟩ ?_
 intro k s1 I1
 have hk0 := I1.2.1
 have hI := I1.2.2
 refine Sr <| Zqlt Z Z Z <| Nt <| Zs <| ?_
 refine JC_ifD Z (fun c2 => ?_) (fun c2 => ?_)
 ·
  have hk : k < n := by omega
  obtain ⟨b, off, x, rfl, hx, hcx, _⟩ := Strs.at_ (hA.le I1.1) hk
  refine Zk <| Zt <| Zs <| Zp <| Sr <| Zqm Z Z <| At Z Z <| Sr <| Zqm Z Z <| Zqm Z Z <| Zqm Z Z <| JO_q (QE_ia1 Z Z Z Z Z Z hk) Z <| JO_q (QE_ldsR0 Z Z Z hcx Z) Z <| Zqse Z Z Z <| Nt <| ?_
  refine JC_ifD Z (fun c3 => ?_) (fun c3 => ?_)
  ·
   have hz := decide_eq_true c3
   refine Sr <| Zqm Z Z <| At Z Z <| Zo <| Zc <| Zu <| Zu <| Zc <| Zu <| ?_
   refine retQ_mk [] L (.inr Z) (.tmp Z (.nil)) Z I1.1 (fun sR hS2 => ?_)
   refine ⟨?_, Z⟩
   simp only [resV]; rw [idxOf_hit hI hx hz, Nat.zero_add]
  have hz := decide_eq_false c3
  refine Zk <| Zb <| Zt <| Zr <| Zqadd Z Z Z (w64 O O) <| Zqm Z Z <| Zn <| ?_
  refine thenQ_n ⟨(k + 1), [], kp, Z, ⟨I1.1, ⟨by omega, below_succ hI hx hz⟩⟩, O⟩
 refine Zl <| Zv <| Zv <| Zd <| Zt <| Sr <| At Z Z <| Zo <| ?_
 refine retQ_mk [] L (.inr Z) (.tmp Z (.nil)) Z I1.1 (fun sR hS2 => ?_)
 refine ⟨?_, Z⟩
 simp only [resV]; rw [idxOf_none (fun i a hi h => hI i a O h)]
theorem scont_ac (D : Nat) (L : Hl) (s : World) (A : Option Addr) (n c : Nat) (l : List (List UInt8)) (hA : Strs s A n c l) (w : List UInt8) : AC Tryz.prog D 40 [.slice A n c, St w] L s fun v L' _ => v = .bool (decide (0 ≤ idxOf (fun x => decide (w = x)) l 0)) ∧ L = L' := by
 refine AC_enter (TT := TT) (fn := Tryz.f40) TT_ok Tryz.func40 V Z Tryz.ntmps40 Z (rs := [.tmp 4]) Z [(0, _), (1, _)] Z <| Sr <| At Z Z <| Sr <| Zqm Z Z <| Zqm Z Z <| Jc Z Z Z (sidx_ac D _ _ A n c l (hA.le (Lr D)) w) ?_
 rintro _ _ s1 h1 ⟨rfl, rfl⟩
 refine Zqge Z Z Z <| At Z Z <| Zo <| ?_
 refine retQ_mk [] L (.inr Z) (.tmp Z (.nil)) Z h1 (fun sR hS2 => ?_)
 exact ⟨rfl, rfl⟩
theorem keyword_ac (D : Nat) (L : Hl) (s : World) (hG : GP s) (l : List UInt8) : AC Tryz.prog D 17 [St l] L s fun v L' _ => v = .bool (kwB l) ∧ L = L' := by
 refine AC_enter (TT := TT) (fn := Tryz.f17) TT_ok Tryz.func17 V Z Tryz.ntmps17 Z (rs := [.tmp 2]) Z [(0, _)] Z <| Sr <| At Z Z <| Sr <| Jc Z Z Z (fieldsP_ac D _ _ (hG.le (Lr D)) kwT kwords kw_flds (by decide +kernel) (by decide) (by decide) (by decide)) ?_
 rintro _ _ s1 h1 ⟨rfl, Ak, nk, ck, rfl, hK⟩
 refine Zqm Z Z <| Jc Z Z Z (scont_ac D _ _ Ak nk ck kwords (hK.le (Lr D)) l) ?_
 rintro _ _ s2 h2 ⟨rfl, rfl⟩
 refine At Z Z <| Zo <| ?_
 refine retQ_mk [] L (.inr Z) (.tmp Z (.nil)) Z (h1.t h2) (fun sR hS2 => ?_)
 exact ⟨by simp only [resV, kw_any], rfl⟩
theorem isWord_ac (D : Nat) (L : Hl) (s : World) (l : List UInt8) : AC Tryz.prog D 80 [St l] L s fun v L' _ => v = .bool (wordOK l) ∧ L = L' := by
 refine AC_enter (TT := TT) (fn := Tryz.f80) TT_ok Tryz.func80 V Z Tryz.ntmps80 Z (rs := [.tmp 2]) Z [(0, _)] Z <| Sr <| At Z Z <| Zs <| Sr <| Zqm Z Z <| Zqse Z Z Z <| Zqm Z Z <| ?_
 refine JO_caseD (t := 5) Z (fun c1 => ?_) (fun c1 => ?_)
 ·
  refine Wf Y4 <| Wf Y4 <| Wf Y4 <| ZqT Z Z Z <| Zqm Z Z <| Wf Y4 <| Wf Y4 <| Wf Y4 <| ZqT Z Z Z <| Nt <| Zy Z <| Sr <| At Z Z <| Zo <| Zu <| ?_
  refine retQ_mk [] L (.inr Z) (.tmp Z (.nil)) Z (Lr D) (fun sR hS2 => ?_)
  refine ⟨?_, Z⟩
  simp [resV, wordOK, *]; done
 refine Zg Z Z <| Zqm Z Z <| Zg Z Z <| ?_
 obtain ⟨ch, hch⟩ : ∃ ch, l[0]? = some ch := ⟨_, List.getElem?_eq_getElem (List.length_pos_iff.2 As)⟩
 refine JO_q (QE_ix Z Z Z Z hch) Z <| Zg Z Z <| Zqlt Z Z Z <| ZqF Z Z Z <| Zqm Z Z <| ?_
 refine JO_caseD (t := 10) Z (fun c2 => ?_) (fun c2 => ?_)
 ·
  refine Wf Y4 <| Wf Y4 <| Wf Y4 <| ZqT Z Z Z <| Nt <| Zy Z <| Sr <| At Z Z <| Zo <| Zu <| ?_
  refine retQ_mk [] L (.inr Z) (.tmp Z (.nil)) Z (Lr D) (fun sR hS2 => ?_)
  refine ⟨?_, Z⟩
  rw [show wordOK l = false from word_not hch O]; rfl
 refine Zg Z Z <| Zqm Z Z <| Zg Z Z <| JO_q (QE_ix Z Z Z Z hch) Z <| Zg Z Z <| Zqgt Z Z Z <| ZqF Z Z Z <| Nt <| ?_
 refine JC_ifD Z (fun c3 => ?_) (fun c3 => ?_)
 ·
  refine Sr <| At Z Z <| Zo <| Zu <| ?_
  refine retQ_mk [] L (.inr Z) (.tmp Z (.nil)) Z (Lr D) (fun sR hS2 => ?_)
  refine ⟨?_, Z⟩
  rw [show wordOK l = false from word_not hch O]; rfl
 refine Zk <| Zt <| Sr <| Zqm Z Z <| Jc Z Z Z (contains_ac D _ _ _) ?_
 rintro _ _ s4 h4 ⟨rfl, rfl⟩
 refine Zqno Z Z <| At Z Z <| Zo <| ?_
 refine retQ_mk [] L (.inr Z) (.tmp Z (.nil)) Z h4 (fun sR hS2 => ?_)
 refine ⟨?_, Z⟩
 rw [word_good hch ⟨by omega, by omega⟩]; rfl
theorem ident_ac (D : Nat) (L : Hl) (s : World) (hG : GP s) (l : List UInt8) : AC Tryz.prog D 54 [St l] L s fun v L' _ => v = .bool (identB l) ∧ L = L' := by
 refine AC_enter (TT := TT) (fn := Tryz.f54) TT_ok Tryz.func54 V Z Tryz.ntmps54 Z (rs := [.tmp 2]) Z [(0, _)] Z <| Sr <| At Z Z <| Sr <| Zqm Z Z <| Jc Z Z Z (isWord_ac D _ _ l) ?_
 rintro _ _ s1 h1 ⟨rfl, rfl⟩
 refine Zqm Z Z ?_
 refine JO_case (t := 5) Z (fun c2 => ?_) (fun c2 => ?_)
 ·
  refine Zg Z Z <| Zqm Z Z <| Zg Z Z <| Zqlt2 Z Z Z Z <| Zg Z Z <| Zqle Z Z Z <| ZqT Z Z Z <| Zqm Z Z <| ?_
  refine JO_caseD (t := 10) Z (fun c3 => ?_) (fun c3 => ?_)
  ·
   refine Zg Z Z <| Zqm Z Z <| Zg Z Z <| Jc Z Z Z (keyword_ac D _ _ (hG.le h1) l) ?_
   rintro _ _ s4 h4 ⟨rfl, rfl⟩
   refine Zg Z Z <| Zqno Z Z <| ZqT Z Z Z <| At Z Z <| Zo <| ?_
   refine retQ_mk [] L (.inr Z) (.tmp Z (.nil)) Z (h1.t h4) (fun sR hS2 => ?_)
   refine ⟨?_, Z⟩
   rw [ident_word]; simp only [resV]
   rw [show wordOK l = true by assumption, show decide ((l.length : Int) ≤ 12) = true from decide_eq_true O]; rfl
  refine Wf Y4 <| Wf Y4 <| Wf Y4 <| ZqF Z Z Z <| At Z Z <| Zo <| ?_
  refine retQ_mk [] L (.inr Z) (.tmp Z (.nil)) Z h1 (fun sR hS2 => ?_)
  refine ⟨?_, Z⟩
  rw [ident_word]; simp only [resV]
  rw [show wordOK l = true by assumption, show decide ((l.length : Int) ≤ 12) = false from decide_eq_false O]; rfl
 refine Wf Y4 <| Wf Y4 <| Wf Y4 <| ZqF Z Z Z <| Zqm Z Z <| Wf Y4 <| Wf Y4 <| Wf Y4 <| ZqF Z Z Z <| At Z Z <| Zo ?_
 refine retQ_mk [] L (.inr Z) (.tmp Z (.nil)) Z h1 (fun sR hS2 => ?_)
 refine ⟨?_, Z⟩
 rw [ident_word]; simp only [resV]
 rw [show wordOK l = false by assumption]; rfl
theorem sign_ac (D : Nat) (L : Hl) (s : World) (hG : GP s) (o : Int) (ho : 1 ≤ o ∧ o ≤ 21) : AC Tryz.prog D 136 [.int .i64 o] L s fun v L' _ => v = St (sgnT o) ∧ L = L' := by
 obtain ⟨j, rfl⟩ : ∃ j : Nat, o = (j : Int) + 1 := ⟨(o - 1).toNat, by omega⟩
 refine AC_enter (TT := TT) (fn := Tryz.f136) TT_ok Tryz.func136 V Z Tryz.ntmps136 Z (rs := [.tmp 2]) Z [(0, _)] Z <| Sr <| At Z Z <| Sr <| Jc Z Z Z (fieldsP_ac D _ _ (hG.le (Lr D)) sgT signL.tail sg_flds (by decide +kernel) (by decide) (by decide) (by decide)) ?_
 rintro _ _ s1 h1 ⟨rfl, Ak, nk, ck, rfl, hK⟩
 have hnk : nk = 21 := hK.1
 obtain ⟨bk, ok, xk, rfl, hxk, hck, _⟩ := Strs.at_ hK (show j < nk by omega)
 refine Zqm Z Z <| JO_q (QE_sub' (c := ((j : Nat) : Int)) Z Z (by rw [w64 O O]; omega)) Z <| JO_q (QE_ia1 Z Z Z Z Z Z (show j < nk by omega)) Z <| JO_q (QE_ldsR0 Z Z Z (hck.le (Lr D)) Z) Z <| At Z Z <| Zo <| ?_
 refine retQ_mk [] L (.inr Z) (.tmp Z (.nil)) Z h1 (fun sR hS2 => ?_)
 refine ⟨?_, Z⟩
 rw [sgnT, show ((j : Int) + 1).toNat = j + 1 by omega, List.getD, show signL[j + 1]? = signL.tail[j]? from rfl, hxk]; rfl
theorem strength_ac (D : Nat) (L : Hl) (s : World) (o : Int) : AC Tryz.prog D 138 [.int .i64 o] L s fun v L' _ => v = .int .i64 (strg o) ∧ L = L' := by
 refine AC_enter (TT := TT) (fn := Tryz.f138) TT_ok Tryz.func138 V Z Tryz.ntmps138 Z (rs := [.tmp 2]) Z [(0, _)] Z <| Sr <| At Z Z <| Zs <| Sr <| Zqm Z Z <| Nt <| Zp <| Sr <| Zqeq Z Z Z <| At Z Z <| ?_
 refine JC_ifD Z (fun c1 => ?_) (fun c1 => ?_)
 ·
  refine Sr <| At Z Z <| Zo <| Zc <| Zu <| ?_
  refine retQ_mk [] L (.inr Z) (.tmp Z (.nil)) Z (Lr D) (fun sR hS2 => ?_)
  refine ⟨?_, Z⟩
  simp only [resV]; unfold strg
  repeat' split
  all_goals (first | rfl | (exfalso; omega))
 refine Sr <| Zqeq Z Z Z <| At Z Z <| ?_
 refine JC_ifD Z (fun c2 => ?_) (fun c2 => ?_)
 ·
  refine Sr <| At Z Z <| Zo <| Zc <| Zu <| ?_
  refine retQ_mk [] L (.inr Z) (.tmp Z (.nil)) Z (Lr D) (fun sR hS2 => ?_)
  refine ⟨?_, Z⟩
  simp only [resV]; unfold strg
  repeat' split
  all_goals (first | rfl | (exfalso; omega))
 refine Zs <| Sr <| Zqeq Z Z Z <| At Z Z <| ?_
 refine JC_ifD Z (fun c3 => ?_) (fun c3 => ?_)
 ·
  refine Zk <| Zt <| ?_
  refine JC_ifD Z (fun c4 => ?_) (fun c4 => ?_)
  ·
   refine Sr <| At Z Z <| Zo <| Zc <| Zu <| ?_
   refine retQ_mk [] L (.inr Z) (.tmp Z (.nil)) Z (Lr D) (fun sR hS2 => ?_)
   refine ⟨?_, Z⟩
   simp only [resV]; unfold strg
   repeat' split
   all_goals (first | rfl | (exfalso; omega))
  refine Zs <| Sr <| Zqeq Z Z Z <| At Z Z <| ?_
  refine JC_ifD Z (fun c5 => ?_) (fun c5 => ?_)
  ·
   refine Zk <| Zt <| ?_
   refine JC_ifD Z (fun c6 => ?_) (fun c6 => ?_)
   ·
    refine Sr <| At Z Z <| Zo <| Zc <| Zu <| ?_
    refine retQ_mk [] L (.inr Z) (.tmp Z (.nil)) Z (Lr D) (fun sR hS2 => ?_)
    refine ⟨?_, Z⟩
    simp only [resV]; unfold strg
    repeat' split
    all_goals (first | rfl | (exfalso; omega))
   refine Zk <| Zb <| Zt <| Sr <| At Z Z <| Zo <| ?_
   refine retQ_mk [] L (.inr Z) (.tmp Z (.nil)) Z (Lr D) (fun sR hS2 => ?_)
   refine ⟨?_, Z⟩
   simp only [resV]; unfold strg
   repeat' split
   all_goals (first | rfl | (exfalso; omega))
  refine Sr <| Zqeq Z Z Z <| At Z Z <| ?_
  refine JC_ifD Z (fun c7 => ?_) (fun c7 => ?_)
  ·
   refine Zk <| Zt <| ?_
   refine JC_ifD Z (fun c8 => ?_) (fun c8 => ?_)
   ·
    refine Sr <| At Z Z <| Zo <| Zc <| Zu <| ?_
    refine retQ_mk [] L (.inr Z) (.tmp Z (.nil)) Z (Lr D) (fun sR hS2 => ?_)
    refine ⟨?_, Z⟩
    simp only [resV]; unfold strg
    repeat' split
    all_goals (first | rfl | (exfalso; omega))
   refine Zk <| Zb <| Zt <| Sr <| At Z Z <| Zo <| ?_
   refine retQ_mk [] L (.inr Z) (.tmp Z (.nil)) Z (Lr D) (fun sR hS2 => ?_)
   refine ⟨?_, Z⟩
   simp only [resV]; unfold strg
   repeat' split
   all_goals (first | rfl | (exfalso; omega))
  refine Sr <| Zqeq Z Z Z <| At Z Z <| ?_
  refine JC_ifD Z (fun c9 => ?_) (fun c9 => ?_)
  ·
   refine Zk <| Zt <| ?_
   refine JC_ifD Z (fun c10 => ?_) (fun c10 => ?_)
   ·
    refine Sr <| At Z Z <| Zo <| Zc <| Zu <| ?_
    refine retQ_mk [] L (.inr Z) (.tmp Z (.nil)) Z (Lr D) (fun sR hS2 => ?_)
    refine ⟨?_, Z⟩
    simp only [resV]; unfold strg
    repeat' split
    all_goals (first | rfl | (exfalso; omega))
   refine Zk <| Zb <| Zt <| Sr <| At Z Z <| Zo <| ?_
   refine retQ_mk [] L (.inr Z) (.tmp Z (.nil)) Z (Lr D) (fun sR hS2 => ?_)
   refine ⟨?_, Z⟩
   simp only [resV]; unfold strg
   repeat' split
   all_goals (first | rfl | (exfalso; omega))
  refine Zr <| Zqeq Z Z Z <| At Z Z <| ?_
  refine JC_ifD Z (fun c11 => ?_) (fun c11 => ?_)
  ·
   refine Sr <| At Z Z <| Zo <| Zc <| Zu <| ?_
   refine retQ_mk [] L (.inr Z) (.tmp Z (.nil)) Z (Lr D) (fun sR hS2 => ?_)
   refine ⟨?_, Z⟩
   simp only [resV]; unfold strg
   repeat' split
   all_goals (first | rfl | (exfalso; omega))
  refine Zk <| Zb <| Zt <| Sr <| At Z Z <| Zo <| ?_
  refine retQ_mk [] L (.inr Z) (.tmp Z (.nil)) Z (Lr D) (fun sR hS2 => ?_)
  refine ⟨?_, Z⟩
  simp only [resV]; unfold strg
  repeat' split
  all_goals (first | rfl | (exfalso; omega))
 refine Sr <| Zqeq Z Z Z <| At Z Z <| ?_
 refine JC_ifD Z (fun c12 => ?_) (fun c12 => ?_)
 ·
  refine Zk <| Zt <| ?_
  refine JC_ifD Z (fun c13 => ?_) (fun c13 => ?_)
  ·
   refine Sr <| At Z Z <| Zo <| Zc <| Zu <| ?_
   refine retQ_mk [] L (.inr Z) (.tmp Z (.nil)) Z (Lr D) (fun sR hS2 => ?_)
   refine ⟨?_, Z⟩
   simp only [resV]; unfold strg
   repeat' split
   all_goals (first | rfl | (exfalso; omega))
  refine Zs <| Sr <| Zqeq Z Z Z <| At Z Z <| ?_
  refine JC_ifD Z (fun c14 => ?_) (fun c14 => ?_)
  ·
   refine Zk <| Zt <| ?_
   refine JC_ifD Z (fun c15 => ?_) (fun c15 => ?_)
   ·
    refine Sr <| At Z Z <| Zo <| Zc <| Zu <| ?_
    refine retQ_mk [] L (.inr Z) (.tmp Z (.nil)) Z (Lr D) (fun sR hS2 => ?_)
    refine ⟨?_, Z⟩
    simp only [resV]; unfold strg
    repeat' split
    all_goals (first | rfl | (exfalso; omega))
   refine Zk <| Zb <| Zt <| Sr <| At Z Z <| Zo <| ?_
   refine retQ_mk [] L (.inr Z) (.tmp Z (.nil)) Z (Lr D) (fun sR hS2 => ?_)
   refine ⟨?_, Z⟩
   simp only [resV]; unfold strg
   repeat' split
   all_goals (first | rfl | (exfalso; omega))
  refine Sr <| Zqeq Z Z Z <| At Z Z <| ?_
  refine JC_ifD Z (fun c16 => ?_) (fun c16 => ?_)
  ·
   refine Zk <| Zt <| ?_
   refine JC_ifD Z (fun c17 => ?_) (fun c17 => ?_)
   ·
    refine Sr <| At Z Z <| Zo <| Zc <| Zu <| ?_
    refine retQ_mk [] L (.inr Z) (.tmp Z (.nil)) Z (Lr D) (fun sR hS2 => ?_)
    refine ⟨?_, Z⟩
    simp only [resV]; unfold strg
    repeat' split
    all_goals (first | rfl | (exfalso; omega))
   refine Zk <| Zb <| Zt <| Sr <| At Z Z <| Zo <| ?_
   refine retQ_mk [] L (.inr Z) (.tmp Z (.nil)) Z (Lr D) (fun sR hS2 => ?_)
   refine ⟨?_, Z⟩
   simp only [resV]; unfold strg
   repeat' split
   all_goals (first | rfl | (exfalso; omega))
  refine Sr <| Zqeq Z Z Z <| At Z Z <| ?_
  refine JC_ifD Z (fun c18 => ?_) (fun c18 => ?_)
  ·
   refine Zk <| Zt <| ?_
   refine JC_ifD Z (fun c19 => ?_) (fun c19 => ?_)
   ·
    refine Sr <| At Z Z <| Zo <| Zc <| Zu <| ?_
    refine retQ_mk [] L (.inr Z) (.tmp Z (.nil)) Z (Lr D) (fun sR hS2 => ?_)
    refine ⟨?_, Z⟩
    simp only [resV]; unfold strg
    repeat' split
    all_goals (first | rfl | (exfalso; omega))
   refine Zk <| Zb <| Zt <| Sr <| At Z Z <| Zo <| ?_
   refine retQ_mk [] L (.inr Z) (.tmp Z (.nil)) Z (Lr D) (fun sR hS2 => ?_)
   refine ⟨?_, Z⟩
   simp only [resV]; unfold strg
   repeat' split
   all_goals (first | rfl | (exfalso; omega))
  refine Zr <| Zqeq Z Z Z <| At Z Z <| ?_
  refine JC_ifD Z (fun c20 => ?_) (fun c20 => ?_)
  ·
   refine Sr <| At Z Z <| Zo <| Zc <| Zu <| ?_
   refine retQ_mk [] L (.inr Z) (.tmp Z (.nil)) Z (Lr D) (fun sR hS2 => ?_)
   refine ⟨?_, Z⟩
   simp only [resV]; unfold strg
   repeat' split
   all_goals (first | rfl | (exfalso; omega))
  refine Zk <| Zb <| Zt <| Sr <| At Z Z <| Zo <| ?_
  refine retQ_mk [] L (.inr Z) (.tmp Z (.nil)) Z (Lr D) (fun sR hS2 => ?_)
  refine ⟨?_, Z⟩
  simp only [resV]; unfold strg
  repeat' split
  all_goals (first | rfl | (exfalso; omega))
 refine Sr <| Zqeq Z Z Z <| At Z Z <| ?_
 refine JC_ifD Z (fun c21 => ?_) (fun c21 => ?_)
 ·
  refine Zk <| Zt <| ?_
  refine JC_ifD Z (fun c22 => ?_) (fun c22 => ?_)
  ·
   refine Sr <| At Z Z <| Zo <| Zc <| Zu <| ?_
   refine retQ_mk [] L (.inr Z) (.tmp Z (.nil)) Z (Lr D) (fun sR hS2 => ?_)
   refine ⟨?_, Z⟩
   simp only [resV]; unfold strg
   repeat' split
   all_goals (first | rfl | (exfalso; omega))
  refine Zs <| Sr <| Zqeq Z Z Z <| At Z Z <| ?_
  refine JC_ifD Z (fun c23 => ?_) (fun c23 => ?_)
  ·
   refine Zk <| Zt <| ?_
   refine JC_ifD Z (fun c24 => ?_) (fun c24 => ?_)
   ·
    refine Sr <| At Z Z <| Zo <| Zc <| Zu <| ?_
    refine retQ_mk [] L (.inr Z) (.tmp Z (.nil)) Z (Lr D) (fun sR hS2 => ?_)
    refine ⟨?_, Z⟩
    simp only [resV]; unfold strg
    repeat' split
    all_goals (first | rfl | (exfalso; omega))
   refine Zk <| Zb <| Zt <| Sr <| At Z Z <| Zo <| ?_
   refine retQ_mk [] L (.inr Z) (.tmp Z (.nil)) Z (Lr D) (fun sR hS2 => ?_)
   refine ⟨?_, Z⟩
   simp only [resV]; unfold strg
   repeat' split
   all_goals (first | rfl | (exfalso; omega))
  refine Sr <| Zqeq Z Z Z <| At Z Z <| ?_
  refine JC_ifD Z (fun c25 => ?_) (fun c25 => ?_)
  ·
   refine Zk <| Zt <| ?_
   refine JC_ifD Z (fun c26 => ?_) (fun c26 => ?_)
   ·
    refine Sr <| At Z Z <| Zo <| Zc <| Zu <| ?_
    refine retQ_mk [] L (.inr Z) (.tmp Z (.nil)) Z (Lr D) (fun sR hS2 => ?_)
    refine ⟨?_, Z⟩
    simp only [resV]; unfold strg
    repeat' split
    all_goals (first | rfl | (exfalso; omega))
   refine Zk <| Zb <| Zt <| Sr <| At Z Z <| Zo <| ?_
   refine retQ_mk [] L (.inr Z) (.tmp Z (.nil)) Z (Lr D) (fun sR hS2 => ?_)
   refine ⟨?_, Z⟩
   simp only [resV]; unfold strg
   repeat' split
   all_goals (first | rfl | (exfalso; omega))
  refine Sr <| Zqeq Z Z Z <| At Z Z <| ?_
  refine JC_ifD Z (fun c27 => ?_) (fun c27 => ?_)
  ·
   refine Zk <| Zt <| ?_
   refine JC_ifD Z (fun c28 => ?_) (fun c28 => ?_)
   ·
    refine Sr <| At Z Z <| Zo <| Zc <| Zu <| ?_
    refine retQ_mk [] L (.inr Z) (.tmp Z (.nil)) Z (Lr D) (fun sR hS2 => ?_)
    refine ⟨?_, Z⟩
    simp only [resV]; unfold strg
    repeat' split
    all_goals (first | rfl | (exfalso; omega))
   refine Zk <| Zb <| Zt <| Sr <| At Z Z <| Zo <| ?_
   refine retQ_mk [] L (.inr Z) (.tmp Z (.nil)) Z (Lr D) (fun sR hS2 => ?_)
   refine ⟨?_, Z⟩
   simp only [resV]; unfold strg
   repeat' split
   all_goals (first | rfl | (exfalso; omega))
  refine Zr <| Zqeq Z Z Z <| At Z Z <| ?_
  refine JC_ifD Z (fun c29 => ?_) (fun c29 => ?_)
  ·
   refine Sr <| At Z Z <| Zo <| Zc <| Zu <| ?_
   refine retQ_mk [] L (.inr Z) (.tmp Z (.nil)) Z (Lr D) (fun sR hS2 => ?_)
   refine ⟨?_, Z⟩
   simp only [resV]; unfold strg
   repeat' split
   all_goals (first | rfl | (exfalso; omega))
  refine Zk <| Zb <| Zt <| Sr <| At Z Z <| Zo <| ?_
  refine retQ_mk [] L (.inr Z) (.tmp Z (.nil)) Z (Lr D) (fun sR hS2 => ?_)
  refine ⟨?_, Z⟩
  simp only [resV]; unfold strg
  repeat' split
  all_goals (first | rfl | (exfalso; omega))
 refine Sr <| Zqeq Z Z Z <| At Z Z <| ?_
 refine JC_ifD Z (fun c30 => ?_) (fun c30 => ?_)
 ·
  refine Zk <| Zt <| ?_
  refine JC_ifD Z (fun c31 => ?_) (fun c31 => ?_)
  ·
   refine Sr <| At Z Z <| Zo <| Zc <| Zu <| ?_
   refine retQ_mk [] L (.inr Z) (.tmp Z (.nil)) Z (Lr D) (fun sR hS2 => ?_)
   refine ⟨?_, Z⟩
   simp only [resV]; unfold strg
   repeat' split
   all_goals (first | rfl | (exfalso; omega))
  refine Zs <| Sr <| Zqeq Z Z Z <| At Z Z <| ?_
  refine JC_ifD Z (fun c32 => ?_) (fun c32 => ?_)
  ·
   refine Zk <| Zt <| ?_
   refine JC_ifD Z (fun c33 => ?_) (fun c33 => ?_)
   ·
    refine Sr <| At Z Z <| Zo <| Zc <| Zu <| ?_
    refine retQ_mk [] L (.inr Z) (.tmp Z (.nil)) Z (Lr D) (fun sR hS2 => ?_)
    refine ⟨?_, Z⟩
    simp only [resV]; unfold strg
    repeat' split
    all_goals (first | rfl | (exfalso; omega))
   refine Zk <| Zb <| Zt <| Sr <| At Z Z <| Zo <| ?_
   refine retQ_mk [] L (.inr Z) (.tmp Z (.nil)) Z (Lr D) (fun sR hS2 => ?_)
   refine ⟨?_, Z⟩
   simp only [resV]; unfold strg
   repeat' split
   all_goals (first | rfl | (exfalso; omega))
  refine Sr <| Zqeq Z Z Z <| At Z Z <| ?_
  refine JC_ifD Z (fun c34 => ?_) (fun c34 => ?_)
  ·
   refine Zk <| Zt <| ?_
   refine JC_ifD Z (fun c35 => ?_) (fun c35 => ?_)
   ·
    refine Sr <| At Z Z <| Zo <| Zc <| Zu <| ?_
    refine retQ_mk [] L (.inr Z) (.tmp Z (.nil)) Z (Lr D) (fun sR hS2 => ?_)
    refine ⟨?_, Z⟩
    simp only [resV]; unfold strg
    repeat' split
    all_goals (first | rfl | (exfalso; omega))
   refine Zk <| Zb <| Zt <| Sr <| At Z Z <| Zo <| ?_
   refine retQ_mk [] L (.inr Z) (.tmp Z (.nil)) Z (Lr D) (fun sR hS2 => ?_)
   refine ⟨?_, Z⟩
   simp only [resV]; unfold strg
   repeat' split
   all_goals (first | rfl | (exfalso; omega))
  refine Sr <| Zqeq Z Z Z <| At Z Z <| ?_
  refine JC_ifD Z (fun c36 => ?_) (fun c36 => ?_)
  ·
   refine Zk <| Zt <| ?_
   refine JC_ifD Z (fun c37 => ?_) (fun c37 => ?_)
   ·
    refine Sr <| At Z Z <| Zo <| Zc <| Zu <| ?_
    refine retQ_mk [] L (.inr Z) (.tmp Z (.nil)) Z (Lr D) (fun sR hS2 => ?_)
    refine ⟨?_, Z⟩
    simp only [resV]; unfold strg
    repeat' split
    all_goals (first | rfl | (exfalso; omega))
   refine Zk <| Zb <| Zt <| Sr <| At Z Z <| Zo <| ?_
   refine retQ_mk [] L (.inr Z) (.tmp Z (.nil)) Z (Lr D) (fun sR hS2 => ?_)
   refine ⟨?_, Z⟩
   simp only [resV]; unfold strg
   repeat' split
   all_goals (first | rfl | (exfalso; omega))
  refine Zr <| Zqeq Z Z Z <| At Z Z <| ?_
  refine JC_ifD Z (fun c38 => ?_) (fun c38 => ?_)
  ·
   refine Sr <| At Z Z <| Zo <| Zc <| Zu <| ?_
   refine retQ_mk [] L (.inr Z) (.tmp Z (.nil)) Z (Lr D) (fun sR hS2 => ?_)
   refine ⟨?_, Z⟩
   simp only [resV]; unfold strg
   repeat' split
   all_goals (first | rfl | (exfalso; omega))
  refine Zk <| Zb <| Zt <| Sr <| At Z Z <| Zo <| ?_
  refine retQ_mk [] L (.inr Z) (.tmp Z (.nil)) Z (Lr D) (fun sR hS2 => ?_)
  refine ⟨?_, Z⟩
  simp only [resV]; unfold strg
  repeat' split
  all_goals (first | rfl | (exfalso; omega))
 refine Sr <| Zqeq Z Z Z <| At Z Z <| ?_
 refine JC_ifD Z (fun c39 => ?_) (fun c39 => ?_)
 ·
  refine Zk <| Zt <| ?_
  refine JC_ifD Z (fun c40 => ?_) (fun c40 => ?_)
  ·
   refine Sr <| At Z Z <| Zo <| Zc <| Zu <| ?_
   refine retQ_mk [] L (.inr Z) (.tmp Z (.nil)) Z (Lr D) (fun sR hS2 => ?_)
   refine ⟨?_, Z⟩
   simp only [resV]; unfold strg
   repeat' split
   all_goals (first | rfl | (exfalso; omega))
  refine Zs <| Sr <| Zqeq Z Z Z <| At Z Z <| ?_
  refine JC_ifD Z (fun c41 => ?_) (fun c41 => ?_)
  ·
   refine Zk <| Zt <| ?_
   refine JC_ifD Z (fun c42 => ?_) (fun c42 => ?_)
   ·
    refine Sr <| At Z Z <| Zo <| Zc <| Zu <| ?_
    refine retQ_mk [] L (.inr Z) (.tmp Z (.nil)) Z (Lr D) (fun sR hS2 => ?_)
    refine ⟨?_, Z⟩
    simp only [resV]; unfold strg
    repeat' split
    all_goals (first | rfl | (exfalso; omega))
   refine Zk <| Zb <| Zt <| Sr <| At Z Z <| Zo <| ?_
   refine retQ_mk [] L (.inr Z) (.tmp Z (.nil)) Z (Lr D) (fun sR hS2 => ?_)
   refine ⟨?_, Z⟩
   simp only [resV]; unfold strg
   repeat' split
   all_goals (first | rfl | (exfalso; omega))
  refine Sr <| Zqeq Z Z Z <| At Z Z <| ?_
  refine JC_ifD Z (fun c43 => ?_) (fun c43 => ?_)
  ·
   refine Zk <| Zt <| ?_
   refine JC_ifD Z (fun c44 => ?_) (fun c44 => ?_)
   ·
    refine Sr <| At Z Z <| Zo <| Zc <| Zu <| ?_
    refine retQ_mk [] L (.inr Z) (.tmp Z (.nil)) Z (Lr D) (fun sR hS2 => ?_)
    refine ⟨?_, Z⟩
    simp only [resV]; unfold strg
    repeat' split
    all_goals (first | rfl | (exfalso; omega))
   refine Zk <| Zb <| Zt <| Sr <| At Z Z <| Zo <| ?_
   refine retQ_mk [] L (.inr Z) (.tmp Z (.nil)) Z (Lr D) (fun sR hS2 => ?_)
   refine ⟨?_, Z⟩
   simp only [resV]; unfold strg
   repeat' split
   all_goals (first | rfl | (exfalso; omega))
  refine Sr <| Zqeq Z Z Z <| At Z Z <| ?_
  refine JC_ifD Z (fun c45 => ?_) (fun c45 => ?_)
  ·
   refine Zk <| Zt <| ?_
   refine JC_ifD Z (fun c46 => ?_) (fun c46 => ?_)
   ·
    refine Sr <| At Z Z <| Zo <| Zc <| Zu <| ?_
    refine retQ_mk [] L (.inr Z) (.tmp Z (.nil)) Z (Lr D) (fun sR hS2 => ?_)
    refine ⟨?_, Z⟩
    simp only [resV]; unfold strg
    repeat' split
    all_goals (first | rfl | (exfalso; omega))
   refine Zk <| Zb <| Zt <| Sr <| At Z Z <| Zo <| ?_
   refine retQ_mk [] L (.inr Z) (.tmp Z (.nil)) Z (Lr D) (fun sR hS2 => ?_)
   refine ⟨?_, Z⟩
   simp only [resV]; unfold strg
   repeat' split
   all_goals (first | rfl | (exfalso; omega))
  refine Zr <| Zqeq Z Z Z <| At Z Z <| ?_
  refine JC_ifD Z (fun c47 => ?_) (fun c47 => ?_)
  ·
   refine Sr <| At Z Z <| Zo <| Zc <| Zu <| ?_
   refine retQ_mk [] L (.inr Z) (.tmp Z (.nil)) Z (Lr D) (fun sR hS2 => ?_)
   refine ⟨?_, Z⟩
   simp only [resV]; unfold strg
   repeat' split
   all_goals (first | rfl | (exfalso; omega))
  refine Zk <| Zb <| Zt <| Sr <| At Z Z <| Zo <| ?_
  refine retQ_mk [] L (.inr Z) (.tmp Z (.nil)) Z (Lr D) (fun sR hS2 => ?_)
  refine ⟨?_, Z⟩
  simp only [resV]; unfold strg
  repeat' split
  all_goals (first | rfl | (exfalso; omega))
 refine Zr <| Zqeq Z Z Z <| At Z Z <| ?_
 refine JC_ifD Z (fun c48 => ?_) (fun c48 => ?_)
 ·
  refine Sr <| At Z Z <| Zo <| Zc <| Zu <| ?_
  refine retQ_mk [] L (.inr Z) (.tmp Z (.nil)) Z (Lr D) (fun sR hS2 => ?_)
  refine ⟨?_, Z⟩
  simp only [resV]; unfold strg
  repeat' split
  all_goals (first | rfl | (exfalso; omega))
 refine Zs <| Sr <| Zqeq Z Z Z <| At Z Z <| ?_
 refine JC_ifD Z (fun c49 => ?_) (fun c49 => ?_)
 ·
  refine Zk <| Zt <| ?_
  refine JC_ifD Z (fun c50 => ?_) (fun c50 => ?_)
  ·
   refine Sr <| At Z Z <| Zo <| Zc <| Zu <| ?_
   refine retQ_mk [] L (.inr Z) (.tmp Z (.nil)) Z (Lr D) (fun sR hS2 => ?_)
   refine ⟨?_, Z⟩
   simp only [resV]; unfold strg
   repeat' split
   all_goals (first | rfl | (exfalso; omega))
  refine Zk <| Zb <| Zt <| Sr <| At Z Z <| Zo <| ?_
  refine retQ_mk [] L (.inr Z) (.tmp Z (.nil)) Z (Lr D) (fun sR hS2 => ?_)
  refine ⟨?_, Z⟩
  simp only [resV]; unfold strg
  repeat' split
  all_goals (first | rfl | (exfalso; omega))
 refine Sr <| Zqeq Z Z Z <| At Z Z <| ?_
 refine JC_ifD Z (fun c51 => ?_) (fun c51 => ?_)
 ·
  refine Zk <| Zt <| ?_
  refine JC_ifD Z (fun c52 => ?_) (fun c52 => ?_)
  ·
   refine Sr <| At Z Z <| Zo <| Zc <| Zu <| ?_
   refine retQ_mk [] L (.inr Z) (.tmp Z (.nil)) Z (Lr D) (fun sR hS2 => ?_)
   refine ⟨?_, Z⟩
   simp only [resV]; unfold strg
   repeat' split
   all_goals (first | rfl | (exfalso; omega))
  refine Zk <| Zb <| Zt <| Sr <| At Z Z <| Zo <| ?_
  refine retQ_mk [] L (.inr Z) (.tmp Z (.nil)) Z (Lr D) (fun sR hS2 => ?_)
  refine ⟨?_, Z⟩
  simp only [resV]; unfold strg
  repeat' split
  all_goals (first | rfl | (exfalso; omega))
 refine Sr <| Zqeq Z Z Z <| At Z Z <| ?_
 refine JC_ifD Z (fun c53 => ?_) (fun c53 => ?_)
 ·
  refine Zk <| Zt <| ?_
  refine JC_ifD Z (fun c54 => ?_) (fun c54 => ?_)
  ·
   refine Sr <| At Z Z <| Zo <| Zc <| Zu <| ?_
   refine retQ_mk [] L (.inr Z) (.tmp Z (.nil)) Z (Lr D) (fun sR hS2 => ?_)
   refine ⟨?_, Z⟩
   simp only [resV]; unfold strg
   repeat' split
   all_goals (first | rfl | (exfalso; omega))
  refine Zk <| Zb <| Zt <| Sr <| At Z Z <| Zo <| ?_
  refine retQ_mk [] L (.inr Z) (.tmp Z (.nil)) Z (Lr D) (fun sR hS2 => ?_)
  refine ⟨?_, Z⟩
  simp only [resV]; unfold strg
  repeat' split
  all_goals (first | rfl | (exfalso; omega))
 refine Zr <| Zqeq Z Z Z <| At Z Z <| ?_
 refine JC_ifD Z (fun c55 => ?_) (fun c55 => ?_)
 ·
  refine Sr <| At Z Z <| Zo <| Zc <| Zu <| ?_
  refine retQ_mk [] L (.inr Z) (.tmp Z (.nil)) Z (Lr D) (fun sR hS2 => ?_)
  refine ⟨?_, Z⟩
  simp only [resV]; unfold strg
  repeat' split
  all_goals (first | rfl | (exfalso; omega))
 refine Zk <| Zb <| Zt <| Sr <| At Z Z <| Zo <| ?_
 refine retQ_mk [] L (.inr Z) (.tmp Z (.nil)) Z (Lr D) (fun sR hS2 => ?_)
 refine ⟨?_, Z⟩
 simp only [resV]; unfold strg
 repeat' split
 all_goals (first | rfl | (exfalso; omega))
theorem w64u {a : Int} (h1 : 0 ≤ a) (h2 : a < 18446744073709551616) : IntKind.u64.wrap a = a := by simp [IntKind.wrap, IntKind.bits, IntKind.signed]; omega
theorem number_ac (D : Nat) (L : Hl) (s : World) (hG : GP s) (n : Int) (hu : U32 n) : AC Tryz.prog D 44 [.int .u32 n] L s fun v L' _ => v = St (decS n) ∧ L = L' := by
 have h2 := hu.2
 obtain ⟨u, rfl⟩ := Int.eq_ofNat_of_zero_le hu.1
 refine AC_enter (TT := TT) (fn := Tryz.f44) TT_ok Tryz.func44 V Z Tryz.ntmps44 Z (rs := [.tmp 2]) Z [(0, _)] Z <| Sr <| At Z Z <| Sr <| Zqm Z Z <| JO_q (QE_conv' Z Z Z Z Z (w64u O O)) Z <| Jc Z Z Z (fmtU_ac D _ _ (hG.gw.le (Lr D)) u O) ?_
 rintro _ _ s1 h1 ⟨rfl, rfl⟩
 refine At Z Z <| Zo <| ?_
 refine retQ_mk [] L (.inr Z) (.tmp Z (.nil)) Z h1 (fun sR hS2 => ?_)
 exact ⟨rfl, rfl⟩
end Go.Proofs.YtiljephghfngnaaGreatDoor
namespace Go.Proofs.YtiljephghfngnaaGreatDoor
open Go Go.FL
mutual
def exN : Ex → Nat
  | .mk _ _ _ _ az => 1 + exNs az
def exNs : List Ex → Nat
  | [] => 0
  | x :: r => exN x + exNs r
end
mutual
def exV : Ex → Bool
  | .mk k o n nm az => decide (exC k o n nm az.length = 0) && exVs az
def exVs : List Ex → Bool
  | [] => true
  | x :: r => exV x && exVs r
end
mutual
def exU : Ex → Bool
  | .mk _ _ n _ az => decide (0 ≤ n ∧ n < 4294967296) && exUs az
def exUs : List Ex → Bool
  | [] => true
  | x :: r => exU x && exUs r
end
mutual
def stN : Stm → Nat
  | .mk _ _ es b e => 1 + exNs es + stNs b + stNs e
def stNs : List Stm → Nat
  | [] => 0
  | x :: r => stN x + stNs r
end
mutual
def stV : Stm → Nat → Bool
  | .mk k nm es b e, lv => decide (lv ≤ 16) && decide (stC k nm es.length b.length e.length = 0) && exVs es && stVs b (lv + 1) && stVs e (lv + 1)
def stVs : List Stm → Nat → Bool
  | [], _ => true
  | x :: r, lv => stV x lv && stVs r lv
end
mutual
def stU : Stm → Bool
  | .mk _ _ es b e => exUs es && stUs b && stUs e
def stUs : List Stm → Bool
  | [] => true
  | x :: r => stU x && stUs r
end
mutual
theorem wkX_ok : ∀ (x : Ex) (lv c : Nat), (wkX x lv c).2 = 0 → exV x = true ∧ (wkX x lv c).1 = c + exN x ∧ c + exN x ≤ 2000
  | .mk k o n nm az, lv, c, h => by
    simp only [wkX] at h ⊢
    split at h
    · cases h
    rename_i h1
    split at h
    · rename_i h2; exact absurd h h2
    rename_i h2
    rw [if_neg h1, if_neg h2]
    obtain ⟨k1, k2, k3⟩ := wkXs_ok az (lv + 1) (c + 1) h
    refine ⟨by simp only [exV, k1, Bool.and_true, decide_eq_true_eq]; simpa using h2, by rw [k2, exN]; omega, by rw [exN]; rcases k3 with k3 | k3 <;> omega⟩
theorem wkXs_ok : ∀ (l : List Ex) (lv c : Nat), (wkXs l lv c).2 = 0 → exVs l = true ∧ (wkXs l lv c).1 = c + exNs l ∧ (exNs l = 0 ∨ c + exNs l ≤ 2000)
  | [], _, c, _ => ⟨rfl, rfl, .inl rfl⟩
  | x :: r, lv, c, h => by
    simp only [wkXs] at h ⊢
    split at h
    · rename_i h1; exact absurd h h1
    rename_i h1
    rw [if_neg h1]
    obtain ⟨a1, a2, a3⟩ := wkX_ok x lv c (by simpa using h1)
    obtain ⟨b1, b2, b3⟩ := wkXs_ok r lv _ h
    refine ⟨by simp only [exVs, a1, b1, Bool.and_true], by rw [b2, a2, exNs]; omega, .inr ?_⟩
    rw [a2] at b3
    rw [exNs]
    rcases b3 with b3 | b3 <;> omega
end
mutual
theorem wkS_ok : ∀ (x : Stm) (lv c : Nat), (wkS x lv c).2 = 0 → stV x lv = true ∧ (wkS x lv c).1 = c + stN x ∧ c + stN x ≤ 2000
  | .mk k nm es b e, lv, c, h => by
    simp only [wkS] at h ⊢
    split at h
    · cases h
    rename_i h1
    split at h
    · rename_i h2; exact absurd h h2
    rename_i h2
    split at h
    · rename_i h3; exact absurd h h3
    rename_i h3
    split at h
    · rename_i h4; exact absurd h h4
    rename_i h4
    rw [if_neg h1, if_neg h2, if_neg h3, if_neg h4]
    obtain ⟨a1, a2, a3⟩ := wkXs_ok es 1 (c + 1) (by simpa using h3)
    obtain ⟨b1, b2, b3⟩ := wkSs_ok b (lv + 1) _ (by simpa using h4)
    obtain ⟨e1, e2, e3⟩ := wkSs_ok e (lv + 1) _ h
    rw [b2, a2] at e3 e2
    rw [a2] at b3
    refine ⟨?_, by rw [b2, a2, e2, stN]; omega, ?_⟩
    · simp only [stV, a1, b1, e1, Bool.and_true, Bool.and_eq_true, decide_eq_true_eq]
      exact ⟨by omega, by simpa using h2⟩
    · rw [stN]
      rcases a3 with a3 | a3 <;> rcases b3 with b3 | b3 <;> rcases e3 with e3 | e3 <;> omega
theorem wkSs_ok : ∀ (l : List Stm) (lv c : Nat), (wkSs l lv c).2 = 0 → stVs l lv = true ∧ (wkSs l lv c).1 = c + stNs l ∧ (stNs l = 0 ∨ c + stNs l ≤ 2000)
  | [], _, c, _ => ⟨rfl, rfl, .inl rfl⟩
  | x :: r, lv, c, h => by
    simp only [wkSs] at h ⊢
    split at h
    · rename_i h1; exact absurd h h1
    rename_i h1
    rw [if_neg h1]
    obtain ⟨a1, a2, a3⟩ := wkS_ok x lv c (by simpa using h1)
    obtain ⟨b1, b2, b3⟩ := wkSs_ok r lv _ h
    refine ⟨by simp only [stVs, a1, b1, Bool.and_true], by rw [b2, a2, stNs]; omega, .inr ?_⟩
    rw [a2] at b3
    rw [stNs]
    rcases b3 with b3 | b3 <;> omega
end
def totW (l : List Str) : Nat := (l.map fun w => w.length + 2).sum
theorem totW_cons (w : Str) (l : List Str) : totW (w :: l) = w.length + 2 + totW l := by simp [totW]
theorem comma_len : ∀ l : List Str, (commaW l).length ≤ totW l
  | [] => Nat.zero_le _
  | [x] => by simp [commaW, totW]
  | x :: y :: r => by
    have := comma_len (y :: r)
    rw [commaW, totW_cons]
    simp only [List.length_append, List.length_cons] at this ⊢
    omega
theorem get0_len (l : List Str) : (l.getD 0 []).length ≤ totW l := by
  cases l with
  | nil => exact Nat.zero_le _
  | cons x r => rw [totW_cons]; simp only [List.getD_cons_zero]; omega
theorem get01_len (l : List Str) : (l.getD 0 []).length + (l.getD 1 []).length ≤ totW l := by
  match l with
  | [] => exact Nat.zero_le _
  | [x] => simp [totW]
  | x :: y :: r => rw [totW_cons, totW_cons]; simp only [List.getD_cons_zero, List.getD_cons_succ]; omega
theorem sgn_len (o : Int) : (sgnT o).length ≤ 2 := by
  unfold sgnT
  have h : ∀ x ∈ signL, x.length ≤ 2 := by decide
  by_cases hk : o.toNat < signL.length
  · rw [List.getD, List.getElem?_eq_getElem hk]; exact h _ (List.getElem_mem hk)
  · rw [List.getD, List.getElem?_eq_none O]; exact Nat.zero_le _
theorem decS_len {n : Int} (h : 0 ≤ n ∧ n < 4294967296) : (decS n).length ≤ 10 := (dec_len (u := n.toNat) O).2
theorem ident_len {l : Str} (h : identB l = true) : l.length ≤ 12 := by
  unfold identB at h
  simp only [Bool.and_eq_true, decide_eq_true_eq] at h
  have := h.1.1.2; omega
theorem exC_name {k o n : Int} {nm : Str} {na : Nat} (h : exC k o n nm na = 0) : nm.length ≤ 12 := by
  unfold exC at h
  split at h
  · cases h
  split at h
  · cases h
  rename_i h2
  split at h
  · cases h
  rename_i h3
  cases hn : namedE k with
  | true =>
    cases hi : identB nm with
    | true => exact ident_len hi
    | false => exact absurd ⟨hn, hi⟩ h2
  | false =>
    by_cases he : nm = []
    · rw [he]; exact Nat.zero_le _
    · exact absurd (.inl ⟨hn, he⟩) h3
theorem exW_len {k o n : Int} {nm : Str} {az : List Str} {out : Int} (hn : 0 ≤ n ∧ n < 4294967296) (hm : nm.length ≤ 12) : (exW k o n nm az out).length ≤ 20 + totW az := by
  have h0 := decS_len hn
  have h1 := comma_len az
  have h2 := get0_len az
  have h3 := get01_len az
  have h4 := sgn_len o
  unfold exW
  repeat' split
  all_goals ((try simp only [List.length_append, List.length_cons, List.length_nil]); omega)
mutual
theorem exT_len : ∀ (x : Ex) (out : Int), exV x = true → exU x = true → (exT x out).length + 2 ≤ 40 * exN x
  | .mk k o n nm az, out, hv, hu => by
    simp only [exV, Bool.and_eq_true, decide_eq_true_eq] at hv
    simp only [exU, Bool.and_eq_true, decide_eq_true_eq] at hu
    have h1 := exTs_len az (outers k o) hv.2 hu.2
    have h2 := exW_len (k := k) (o := o) (az := exTs az (outers k o)) (out := out) hu.1 (exC_name hv.1)
    simp only [exT, exN]
    omega
theorem exTs_len : ∀ (l : List Ex) (os : List Int), exVs l = true → exUs l = true → totW (exTs l os) ≤ 40 * exNs l
  | [], _, _, _ => Nat.zero_le _
  | x :: r, os, hv, hu => by
    simp only [exVs, Bool.and_eq_true] at hv
    simp only [exUs, Bool.and_eq_true] at hu
    have h1 := exT_len x (os.headD 0) hv.1 hu.1
    have h2 := exTs_len r os.tail hv.2 hu.2
    simp only [exTs, totW_cons, exNs]
    omega
end
theorem margin_len (n : Nat) : (margin n).length = 2 * n := by
  induction n with
  | zero => rfl
  | succ n ih => simp only [margin, List.length_append, List.length_cons, List.length_nil, ih]; omega
theorem stC_name {k : Int} {nm : Str} {a b c : Nat} (h : stC k nm a b c = 0) : nm.length ≤ 12 := by
  unfold stC at h
  split at h
  · cases h
  split at h
  · cases h
  rename_i h2
  split at h
  · cases h
  rename_i h3
  cases hn : namedS k with
  | true =>
    cases hi : identB nm with
    | true => exact ident_len hi
    | false => exact absurd ⟨hn, hi⟩ h2
  | false =>
    by_cases he : nm = []
    · rw [he]; exact Nat.zero_le _
    · exact absurd (.inl ⟨hn, he⟩) h3
theorem stW0_len {k : Int} {nm : Str} {es : List Str} (hm : nm.length ≤ 12) : (stW0 k nm es).length ≤ 30 + totW es := by
  have h1 := comma_len es
  have h3 := get01_len es
  have h2 := get0_len es
  unfold stW0
  repeat' split
  all_goals ((try simp only [List.length_append, List.length_cons, List.length_nil]); omega)
mutual
theorem stV_mono : ∀ (x : Stm) (lv m : Nat), lv ≤ m → stV x m = true → stV x lv = true
  | .mk k nm es b e, lv, m, hl, hv => by
    simp only [stV, Bool.and_eq_true, decide_eq_true_eq] at hv ⊢
    exact ⟨⟨⟨⟨by omega, hv.1.1.1.2⟩, hv.1.1.2⟩, stVs_mono b (lv + 1) (m + 1) O hv.1.2⟩, stVs_mono e (lv + 1) (m + 1) O hv.2⟩
theorem stVs_mono : ∀ (l : List Stm) (lv m : Nat), lv ≤ m → stVs l m = true → stVs l lv = true
  | [], _, _, _, _ => rfl
  | x :: r, lv, m, hl, hv => by
    simp only [stVs, Bool.and_eq_true] at hv ⊢
    exact ⟨stV_mono x lv m hl hv.1, stVs_mono r lv m hl hv.2⟩
end
mutual
theorem stT_len : ∀ (x : Stm) (lv : Nat), stV x lv = true → stU x = true → (stT x lv).length + 34 ≤ 200 * stN x
  | .mk k nm es b e, lv, hv, hu => by
    simp only [stV, Bool.and_eq_true, decide_eq_true_eq] at hv
    simp only [stU, Bool.and_eq_true] at hu
    have h1 := exTs_len es [] hv.1.1.2 hu.1.1
    have h2 := stTs_len b (lv + 1) hv.1.2 hu.1.2
    have h3 := stTs_len e (lv + 1) hv.2 hu.2
    have h4 := get0_len (exTs es [])
    have h5 := margin_len lv
    have h6 := stW0_len (k := k) (es := exTs es []) (stC_name hv.1.1.1.2)
    have h7 := hv.1.1.1.1
    have h8 := st1_len e lv hu.2 hv.2
    simp only [stT, stN]
    repeat' split
    all_goals ((try simp only [List.length_append, List.length_cons, List.length_nil]); omega)
theorem stTs_len : ∀ (l : List Stm) (lv : Nat), stVs l lv = true → stUs l = true → (stTs l lv).length ≤ 200 * stNs l
  | [], _, _, _ => Nat.zero_le _
  | x :: r, lv, hv, hu => by
    simp only [stVs, Bool.and_eq_true] at hv
    simp only [stUs, Bool.and_eq_true] at hu
    have h1 := stT_len x lv hv.1 hu.1
    have h2 := stTs_len r lv hv.2 hu.2
    have h3 := margin_len lv
    have h4 : lv ≤ 16 := by
      have := hv.1
      cases x with
      | mk k nm es b e => simp only [stV, Bool.and_eq_true, decide_eq_true_eq] at this; exact this.1.1.1.1
    simp only [stTs, List.length_append, stNs]
    omega
theorem st1_len : ∀ (l : List Stm) (lv : Nat), stUs l = true → stVs l (lv + 1) = true → (st1 l lv).length ≤ 200 * stNs l
  | [], _, _, _ => Nat.zero_le _
  | x :: r, lv, hu, hv => by
    simp only [stVs, Bool.and_eq_true] at hv
    simp only [stUs, Bool.and_eq_true] at hu
    have h1 := stT_len x lv (stV_mono x lv (lv + 1) O hv.1) hu.1
    simp only [st1, stNs]
    omega
end
end Go.Proofs.YtiljephghfngnaaGreatDoor

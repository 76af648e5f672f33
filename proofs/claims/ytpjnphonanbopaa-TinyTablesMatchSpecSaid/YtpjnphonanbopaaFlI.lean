/- Owned rows: append, literals and rows made anew, copy; calls in the middle of what is owned; owned maps. -/
import Derived.Test.YtpjnphonanbopaaFlH
import Derived.Maps.AppendAt
import Derived.Laws.MakeOwn
import Derived.Laws.CopyRow
import Derived.MapKept
namespace Go.FL
open Go Go.RowKit
variable {D : Nat}

/-- behind a change of owned blocks, and new ones -/
theorem of_grown {L L' : Hl} {s w' : World} (h : OKL D L s) (hos : w'.os = s.os) (htp : w'.tape = s.tape) (hout : w'.output = s.output) (hsz : s.heap.size ≤ w'.heap.size) (hnd : (L'.map (·.1)).Nodup)
    (hin : ∀ x ∈ L', w'.heap[x.1]? = some x.2) (hkeys : ∀ x ∈ L', x.1 ∈ L.map (·.1) ∨ s.heap.size ≤ x.1) (hold : ∀ k, k < s.heap.size → k ∉ L.map (·.1) → w'.heap[k]? = s.heap[k]?) :
    w' = fill L' (blank D L' w') ∧ OKL D L' (blank D L' w') ∧ Le D s (blank D L' w') := by
  have hlt : ∀ x ∈ L', x.1 < w'.heap.size := fun x hx => by
    have := hin x hx
    rcases Nat.lt_or_ge x.1 w'.heap.size with h1 | h1
    · exact h1
    · rw [Array.getElem?_eq_none h1] at this; cases this
  have hok : OKL D L' (blank D L' w') := ⟨hnd, fun x hx => blank_mem hlt (List.mem_map.2 ⟨x, hx, rfl⟩)⟩
  refine ⟨world_eq (heap_ext fun k => ?_) ?_ ?_ ?_ ?_, hok, ⟨?_, ?_, ?_, by rw [blank_size]; exact hsz, fun k hk => ?_⟩⟩
  · by_cases hk : k ∈ L'.map (·.1)
    · obtain ⟨x, hx, rfl⟩ := List.mem_map.1 hk
      rw [fill_mem hok hx, hin x hx]
    · rw [fill_other hk, blank_other hk]
  · rw [fill_tape, blank_tape]
  · rw [fill_drawn, blank_drawn]
  · rw [fill_os, blank_os]
  · rw [fill_output, blank_output]
  · rw [blank_os, hos]
  · rw [blank_tape, htp]
  · rw [blank_output, hout]
  · by_cases hd : s.heap[k]? = some (dum D)
    · exact .inl hd
    · have hk1 := not_key h hd
      have hk2 : k ∉ L'.map (·.1) := fun hm => by
        obtain ⟨x, hx, rfl⟩ := List.mem_map.1 hm
        rcases hkeys x hx with h1 | h1
        · exact hk1 h1
        · omega
      exact .inr (by rw [blank_other hk2, hold k hk hk1])

/-- an owned row, or none: the blocks that hold it, the slice, its length, its cells -/
inductive Own (e sz : Nat) : Hl → Value → Nat → List Value → Prop
  | nil : Own e sz [] (.slice none 0 0) 0 []
  | blk (b cap n : Nat) (xs ys : List Value) (hn : xs.length = n * sz) (hc : xs.length + ys.length = cap * sz) (hnc : n ≤ cap) (hm : cap ≤ 9223372036854775807) : Own e sz [(b, cb (xs ++ ys) e)] (.slice (some ⟨b, 0, none⟩) n cap) n xs
/-- cells to be read through a slice -/
def Row (s : World) (A : Option Addr) (m sz : Nat) (news : List Value) : Prop :=
  news.length = m * sz ∧ (∀ u ∈ news, u.oneCell' = true) ∧ ∀ j u, news[j]? = some u → ∃ b off, A = some ⟨b, off, none⟩ ∧ s.cell? ⟨b, off + j, none⟩ = some u
theorem Row.of_cells {s : World} {b off m sz : Nat} {news : List Value} (h : CellsAt s b off news) (hl : news.length = m * sz) (h1 : news.all (·.oneCell') = true) : Row s (some ⟨b, off, none⟩) m sz news :=
  ⟨hl, fun u hu => List.all_eq_true.1 h1 u hu, fun j u hj => ⟨b, off, rfl, h j u hj⟩⟩
theorem Row.le {s s' : World} {A : Option Addr} {m sz : Nat} {news : List Value} (h : Row s A m sz news) (hl : Le D s s') : Row s' A m sz news :=
  ⟨h.1, h.2.1, fun j u hj => by obtain ⟨b, off, h1, h2⟩ := h.2.2 j u hj; exact ⟨b, off, h1, hl.cell h2⟩⟩

theorem Own.owns {e sz : Nat} {A : Hl} {v : Value} {n : Nat} {xs : List Value} (h : Own e sz A v n xs) {w : World} (hw : ∀ x ∈ A, w.heap[x.1]? = some x.2) : w.ownsRow 0 e sz v n xs := by
  cases h with
  | nil => exact World.ownsRow_nil w 0 e sz
  | blk b cap n xs ys hn hc hnc hm =>
    refine ⟨hn, .inr ⟨b, cap, (xs ++ ys).toArray, rfl, Nat.zero_le _, hw _ (List.mem_cons_self ..), hnc, by simpa [maxLen] using hm, by simpa using hc, ?_⟩⟩
    rw [← hn]; simp
theorem Own.key {e sz : Nat} {A : Hl} {v : Value} {n : Nat} {xs : List Value} (h : Own e sz A v n xs) (k : Nat) : k ∈ A.map (·.1) ↔ v.ownBlock = some k := by
  cases h with
  | nil => simp [Value.ownBlock]
  | blk b cap n xs ys => simp [Value.ownBlock, eq_comm]
theorem Own.of_owns {e sz : Nat} {w : World} {v : Value} {n : Nat} {xs : List Value} (h : w.ownsRow 0 e sz v n xs) : ∃ A, Own e sz A v n xs ∧ ∀ x ∈ A, w.heap[x.1]? = some x.2 := by
  obtain ⟨h1, h2⟩ := h
  rcases h2 with ⟨rfl, rfl⟩ | ⟨g, cap, cur, rfl, _, hg, hnc, hcm, hcs, ht⟩
  · have : xs = [] := List.eq_nil_of_length_eq_zero (by simpa using h1)
    subst this
    exact ⟨[], .nil, fun x hx => by cases hx⟩
  · have he : cur = (xs ++ cur.toList.drop (n * sz)).toArray := by
      rw [← ht, List.take_append_drop]
    have hcs' : xs.length + (cur.toList.drop (n * sz)).length = cap * sz := by
      rw [← hcs, ← List.length_append]
      have := congrArg Array.size he
      simpa using this.symm
    refine ⟨[(g, cb (xs ++ cur.toList.drop (n * sz)) e)], .blk g cap n xs _ h1 hcs' hnc (by simpa [maxLen] using hcm), fun x hx => ?_⟩
    simp only [List.mem_singleton] at hx
    subst hx
    rw [hg, cb, ← he]

theorem mem_mid {B A L0 : Hl} {x : Nat × Obj} : x ∈ B ++ (A ++ L0) ↔ x ∈ B ∨ x ∈ A ∨ x ∈ L0 := by simp
/-- the row in the middle replaced by what it has become -/
theorem of_row {B A A' L0 : Hl} {s w' : World} {e sz : Nat} {v v' : Value} {n n' : Nat} {xs xs' : List Value} (h : OKL D (B ++ (A ++ L0)) s) (hO : Own e sz A v n xs) (hO' : Own e sz A' v' n' xs') (hA' : ∀ x ∈ A', w'.heap[x.1]? = some x.2)
    (hg : (fill (B ++ (A ++ L0)) s).grownBy w' v.ownBlock) (hat : v'.ownBlock = v.ownBlock ∨ v'.ownBlock = some s.heap.size) :
    w' = fill (B ++ (A' ++ L0)) (blank D (B ++ (A' ++ L0)) w') ∧ OKL D (B ++ (A' ++ L0)) (blank D (B ++ (A' ++ L0)) w') ∧ Le D s (blank D (B ++ (A' ++ L0)) w') := by
  have hnd := h.nd
  have hkA' : ∀ k, k ∈ A'.map (·.1) → k ∈ A.map (·.1) ∨ k = s.heap.size := fun k hk => by
    rw [hO'.key] at hk
    rcases hat with h1 | h1
    · exact .inl ((hO.key k).2 (h1 ▸ hk))
    · rw [h1] at hk; injection hk with hk; exact .inr hk.symm
  have hsize := hg.size
  rw [fill_size] at hsize
  have hlt : ∀ x ∈ B ++ (A ++ L0), x.1 < s.heap.size := fun x hx => h.lt hx
  simp only [List.map_append, List.nodup_append, List.mem_append] at hnd
  obtain ⟨nB, ⟨nA, nL, dAL⟩, dB⟩ := hnd
  have hrest : ∀ x, x ∈ B ∨ x ∈ L0 → w'.heap[x.1]? = some x.2 := fun x hx => by
    have hmem : x ∈ B ++ (A ++ L0) := mem_mid.2 (by rcases hx with h1 | h1; exact .inl h1; exact .inr (.inr h1))
    rw [hg.block x.1 (by rw [fill_size]; exact hlt x hmem), fill_mem h hmem]
    intro he
    have hk := (hO.key x.1).2 he.symm
    rcases hx with h1 | h1
    · exact dB _ (List.mem_map.2 ⟨x, h1, rfl⟩) _ (.inl hk) rfl
    · exact dAL _ hk _ (List.mem_map.2 ⟨x, h1, rfl⟩) rfl
  refine of_grown h (hg.os.trans (fill_os _ _)) (hg.tape.trans (fill_tape _ _)) (hg.output.trans (fill_output _ _)) hsize ?_ ?_ ?_ ?_
  · have nA' : (A'.map (·.1)).Nodup := by cases hO' <;> simp
    simp only [List.map_append, List.nodup_append, List.mem_append]
    refine ⟨nB, ⟨nA', nL, fun a ha b hb he => ?_⟩, fun a ha b hb he => ?_⟩
    · subst he
      rcases hkA' a ha with h1 | h1
      · exact dAL _ h1 _ hb rfl
      · obtain ⟨x, hx, rfl⟩ := List.mem_map.1 hb
        have := hlt x (mem_mid.2 (.inr (.inr hx))); omega
    · subst he
      rcases hb with hb | hb
      · rcases hkA' a hb with h1 | h1
        · exact dB _ ha _ (.inl h1) rfl
        · obtain ⟨x, hx, rfl⟩ := List.mem_map.1 ha
          have := hlt x (mem_mid.2 (.inl hx)); omega
      · exact dB _ ha _ (.inr hb) rfl
  · intro x hx
    rcases mem_mid.1 hx with h1 | h1 | h1
    · exact hrest x (.inl h1)
    · exact hA' x h1
    · exact hrest x (.inr h1)
  · intro x hx
    rcases mem_mid.1 hx with h1 | h1 | h1
    · exact .inl (List.mem_map.2 ⟨x, mem_mid.2 (.inl h1), rfl⟩)
    · rcases hkA' x.1 (List.mem_map.2 ⟨x, h1, rfl⟩) with h2 | h2
      · exact .inl (by rw [List.map_append, List.map_append]; simp only [List.mem_append]; exact .inr (.inl h2))
      · exact .inr (by omega)
    · exact .inl (List.mem_map.2 ⟨x, mem_mid.2 (.inr (.inr h1)), rfl⟩)
  · intro k hk hn
    rw [hg.block k (by rw [fill_size]; exact hk), fill_other hn]
    intro he
    exact hn (by rw [List.map_append, List.map_append]; simp only [List.mem_append]; exact .inr (.inl ((hO.key k).2 he.symm)))

section
variable {P : Program} {TT : TyTab} {n : Nat} {Q : APost} {fr : Fr} {L L' K : Hl} {s s' s0 : World} {ops : Array Oper} {rest : List Oper} {d ty : Nat} {op : Op} {pos : String} {af : Array Edge} {v : Value}

theorem Ev_app {t e m c k sz : Nat} {x y : Operand} {ti te : TI} {A1 : Option Addr} {news xs : List Value} (B A L0 : Hl) (hT : TabOK P TT) (hx : lk fr x = some v) (hy : lk fr y = some (.slice A1 m c)) (ht : tlook TT t = some ti) (hk : ti.kind = .sl e) (he : tlook TT e = some te) (hsz : te.size = sz)
    (hO : Own e sz A v k xs) (hR : Row s A1 m sz news) (h63 : (k + m) * te.bytes ≤ 140737488355328 ∧ k + m ≤ 9223372036854775807) (ho : OKL D (B ++ (A ++ L0)) s) :
    ∃ v' A' s', Ev P TT D fr (.call { callee := .builtin .append, args := #[x, y], argTypes := #[t, t] }) ty (B ++ (A ++ L0)) s (.value v') (B ++ (A' ++ L0)) s' ∧ Le D s s' ∧ Own e sz A' v' (k + m) (xs ++ news) := by
  have hok := hT.at_ ht
  obtain ⟨k1, k2, _⟩ := hok
  rw [hk] at k2
  simp only [TK.fits] at k2
  rw [k2] at k1
  have hte := hT.at_ he
  obtain ⟨i, i1, i2, i3, i4⟩ := info_of hte
  have hpos : 0 < te.size := hte.2.2.2.2.2.1
  have hzs : te.zero.cells.size = te.size := by rw [zero_cells hte]; simpa using hte.2.2.2.1
  have hin : ∀ x ∈ A, (fill (B ++ (A ++ L0)) s).heap[x.1]? = some x.2 := fun x hx => fill_mem ho (mem_mid.2 (.inr (.inl hx)))
  have hown := hO.owns hin
  by_cases hm : m = 0
  · subst hm
    have hn : news = [] := List.eq_nil_of_length_eq_zero (by simpa using hR.1)
    subst hn
    refine ⟨v, A, s, fun hT ho dst pos af g ρ hρ => ⟨?_, ho⟩, Le.refl _, by simpa using hO⟩
    have hle : ∀ (A2 : Option Addr) (w : World), (Builtin.firstCells te.size 0 (.slice A2 0 c)).run P w = .ok #[] w := fun A2 w => by
      cases A2 <;> simp [Builtin.firstCells, loadCells, loadCellsFrom]
    cases hO with
    | nil => simp [execOp, resolve, invoke, builtin, Builtin.append_, hρ x _ hx, hρ y _ hy, run_underlying k1, run_sizeOf' hte, Builtin.lenOf, hle]
    | blk b cap n xs ys hn hc hnc hm => simp [execOp, resolve, invoke, builtin, Builtin.append_, hρ x _ hx, hρ y _ hy, run_underlying k1, run_sizeOf' hte, Builtin.lenOf, hle, hnc, storeCells]
  · have h0 : ∃ b off, A1 = some ⟨b, off, none⟩ ∧ CellsAt s b off news := by
      have hl : 0 < news.length := by rw [hR.1, ← hsz]; exact Nat.mul_pos (Nat.pos_of_ne_zero hm) hpos
      obtain ⟨b, off, h1, _⟩ := hR.2.2 0 news[0] (List.getElem?_eq_getElem hl)
      refine ⟨b, off, h1, fun j u hj => ?_⟩
      obtain ⟨b', off', h1', h2⟩ := hR.2.2 j u hj
      rw [h1] at h1'
      injection h1' with h1'; injection h1' with e1 e2; subst e1; subst e2
      exact h2
    obtain ⟨b, off, rfl, hcells⟩ := h0
    obtain ⟨v', w', hrun, hown', hgr, _, hat⟩ := run_append_own_at (P := P) (fill (B ++ (A ++ L0)) s) 0 t ty e i te.zero sz te.bytes k1 i1 i4 (i2.trans hsz) i3 (by rw [hzs, hsz]) (by rw [← hsz]; exact hpos) v k xs hown ⟨b, off, none⟩ m c news hR.1
      (fun j u hj => by rw [add_lit]; exact fill_cell ho (hcells j u hj)) hR.2.1 (by simpa [maxLen] using h63.2) h63.1 (Nat.zero_le _)
    obtain ⟨A', hO', hA'⟩ := Own.of_owns hown'
    rw [fill_size] at hat
    obtain ⟨r1, r2, r3⟩ := of_row (D := D) ho hO hO' hA' hgr hat
    refine ⟨v', A', blank D (B ++ (A' ++ L0)) w', fun hT ho dst pos af g ρ hρ => ⟨?_, r2⟩, r3, hO'⟩
    rw [← r1]
    simp only [execOp, resolve, invoke, builtin, Sem.run_bind, Sem.run_pure, Result.andThen_ok, List.map_toArray, List.map_cons, List.map_nil, hρ x _ hx, hρ y _ hy, hrun]
/-- append to an owned row -/
theorem JO_app {t e m c k sz : Nat} {x y : Operand} {ti te : TI} {A1 : Option Addr} {news xs : List Value} (B A L0 : Hl) (hL : L = B ++ (A ++ L0)) (hx : lk fr x = some v) (hy : lk fr y = some (.slice A1 m c)) (ht : tlook TT t = some ti) (hk : ti.kind = .sl e) (he : tlook TT e = some te) (hsz : te.size = sz)
    (hO : Own e sz A v k xs) (hR : Row s A1 m sz news) (h63 : (k + m) * te.bytes ≤ 140737488355328 ∧ k + m ≤ 9223372036854775807) (hd : Nat.blt d n = true)
    (kk : ∀ v' A' s', Le D s s' → Own e sz A' v' (k + m) (xs ++ news) → JO P TT D n ops Q rest ((d, v') :: fr) (B ++ (A' ++ L0)) s') :
    JO P TT D n ops Q (⟨some d, .call { callee := .builtin .append, args := #[x, y], argTypes := #[t, t] }, ty, pos, af, none⟩ :: rest) fr L s := fun hT a hr ho => by
  subst hL
  obtain ⟨v', A', s', h1, h2, h3⟩ := Ev_app (ty := ty) B A L0 hT hx hy ht hk he hsz hO hR h63 ho
  exact JO_ev hd h1 (kk v' A' s' h2 h3) hT a hr ho
theorem JB_app {i0 t e m c k sz : Nat} {g : Option (Nat × Bool)} {fuel : Nat} {listed : Array Bool} {x y : Operand} {ti te : TI} {A1 : Option Addr} {news xs : List Value} (hi0 : ops[i0]? = some ⟨some d, .call { callee := .builtin .append, args := #[x, y], argTypes := #[t, t] }, ty, pos, af, g⟩) (hgk : GOK ops fr g)
    (B A L0 : Hl) (hL : L = B ++ (A ++ L0)) (hx : lk fr x = some v) (hy : lk fr y = some (.slice A1 m c)) (ht : tlook TT t = some ti) (hk : ti.kind = .sl e) (he : tlook TT e = some te) (hsz : te.size = sz)
    (hO : Own e sz A v k xs) (hR : Row s A1 m sz news) (h63 : (k + m) * te.bytes ≤ 140737488355328 ∧ k + m ≤ 9223372036854775807) (hd : Nat.blt d n = true) (hK : ∀ A', ∀ x ∈ K, x ∈ B ++ (A ++ L0) → x ∈ B ++ (A' ++ L0))
    (kk : ∀ v' A' s', Le D s s' → Own e sz A' v' (k + m) (xs ++ news) → JA P TT D n ops Q K s0 fuel (listed.setIfInBounds i0 true) ((d, v') :: fr) (B ++ (A' ++ L0)) s') :
    JB P TT D n ops Q K s0 fuel listed i0 fr L s := fun hT a hr ho hl hKL => by
  subst hL
  obtain ⟨v', A', s', h1, h2, h3⟩ := Ev_app (ty := ty) B A L0 hT hx hy ht hk he hsz hO hR h63 ho
  exact JB_ev hi0 hgk h1 h2 (hK A') hd (kk v' A' s' h2 h3) hT a hr ho hl hKL

/-- an empty literal of a slice: a row of its own without cells -/
theorem JO_bs0 {t e sz : Nat} {ti te : TI} (ht : tlook TT t = some ti) (hk : ti.kind = .sl e) (he : tlook TT e = some te) (hd : Nat.blt d n = true) (k : ∀ β s', Le D s s' → Own e sz [(β, cb [] e)] (.slice (some ⟨β, 0, none⟩) 0 0) 0 [] → JO P TT D n ops Q rest ((d, .slice (some ⟨β, 0, none⟩) 0 0) :: fr) ((β, cb [] e) :: L) s') :
    JO P TT D n ops Q (⟨some d, .buildSlice t 0 #[], ty, pos, af, none⟩ :: rest) fr L s := fun hT a hr ho => by
  obtain ⟨h1, h2, h3⟩ := alloc_fill ho (cb [] e)
  obtain ⟨k1, k2, _⟩ := hT.at_ ht
  rw [hk] at k2
  simp only [TK.fits] at k2
  rw [k2] at k1
  refine JO_ev hd (L' := (s.heap.size, cb [] e) :: L) (s' := s.alloc (dum D)) (v := .slice (some ⟨s.heap.size, 0, none⟩) 0 0) (fun hT _ dst pos af g ρ hρ => ⟨?_, h2⟩) (k _ _ h3 (.blk s.heap.size 0 0 [] [] (by simp) (by simp) (Nat.le_refl _) (by omega))) hT a hr ho
  rw [← h1]
  simp [execOp, Instr.buildSlice, run_underlying k1, run_sizeOf' (hT.at_ he), Instr.fill, run_new, fill_size, cb, show Array.range 0 = #[] from rfl]
/-- make([]T, m) -/
theorem Ev_mk {t e m : Nat} {x : Operand} {ti te : TI} {ik : IntKind} {z : Value} (hT : TabOK P TT) (hx : lk fr x = some (.int ik (m : Int))) (ht : tlook TT t = some ti) (hk : ti.kind = .sl e) (he : tlook TT e = some te) (hz : te.zeros = [z]) (hb : te.bytes * m ≤ 281474976710656) (hm : m ≤ 9223372036854775807) (ho : OKL D L s) :
    Ev P TT D fr (.makeSlice t x x) ty L s (.value (.slice (some ⟨s.heap.size, 0, none⟩) m m)) ((s.heap.size, cb (List.replicate m z) e) :: L) (s.alloc (dum D)) := fun _ _ dst pos af g ρ hρ => by
  obtain ⟨h1, h2, h3⟩ := alloc_fill ho (cb (List.replicate m z) e)
  refine ⟨?_, h2⟩
  obtain ⟨k1, k2, _⟩ := hT.at_ ht
  rw [hk] at k2
  simp only [TK.fits] at k2
  rw [k2] at k1
  have hte := hT.at_ he
  obtain ⟨i, i1, i2, i3, i4⟩ := info_of hte
  have hs1 : te.size = 1 := by rw [← hte.2.2.2.1, hz]; rfl
  have hb' : (i.bytes : Int) * (m : Int) ≤ 281474976710656 := by
    have h : ((te.bytes * m : Nat) : Int) ≤ 281474976710656 := by omega
    rwa [Int.natCast_mul, ← i3] at h
  have hr := run_make (P := P) (fill L s) t e i te.zero k1 i1 i4 ik ik m m (by omega) (by omega) hb' (by omega)
  have hc : madeCells te.zero.cells ((m : Int).toNat * i.size) = (List.replicate m z).toArray := by
    rw [i2, hs1, zero_cells hte, hz]
    apply Array.ext_getElem?
    intro j
    simp only [madeCells, Int.toNat_natCast, Nat.mul_one]
    by_cases hj : j < m
    · simp [hj, Nat.mod_one]
    · rw [Array.getElem?_eq_none (by simp; omega), Array.getElem?_eq_none (by simp; omega)]
  rw [hc] at hr
  simp only [execOp, hρ x _ hx, Sem.run_bind, hr, Result.andThen_ok, Sem.run_pure, fill_size, Int.toNat_natCast]
  rw [← h1]
  rfl
theorem JO_mk {t e m : Nat} {x : Operand} {ti te : TI} {ik : IntKind} {z : Value} (hx : lk fr x = some (.int ik (m : Int))) (ht : tlook TT t = some ti) (hk : ti.kind = .sl e) (he : tlook TT e = some te) (hz : te.zeros = [z]) (hb : te.bytes * m ≤ 281474976710656) (hm : m ≤ 9223372036854775807) (hd : Nat.blt d n = true)
    (k : ∀ β s', Le D s s' → JO P TT D n ops Q rest ((d, .slice (some ⟨β, 0, none⟩) m m) :: fr) ((β, cb (List.replicate m z) e) :: L) s') : JO P TT D n ops Q (⟨some d, .makeSlice t x x, ty, pos, af, none⟩ :: rest) fr L s := fun hT a hr ho =>
  JO_ev hd (Ev_mk hT hx ht hk he hz hb hm ho) (k _ _ (alloc_fill ho (cb (List.replicate m z) e)).2.2) hT a hr ho
theorem JB_mk {i0 t e m : Nat} {g : Option (Nat × Bool)} {fuel : Nat} {listed : Array Bool} {x : Operand} {ti te : TI} {ik : IntKind} {z : Value} (hi0 : ops[i0]? = some ⟨some d, .makeSlice t x x, ty, pos, af, g⟩) (hgk : GOK ops fr g) (hx : lk fr x = some (.int ik (m : Int))) (ht : tlook TT t = some ti) (hk : ti.kind = .sl e) (he : tlook TT e = some te) (hz : te.zeros = [z]) (hb : te.bytes * m ≤ 281474976710656) (hm : m ≤ 9223372036854775807) (hd : Nat.blt d n = true)
    (k : ∀ β s', Le D s s' → JA P TT D n ops Q K s0 fuel (listed.setIfInBounds i0 true) ((d, .slice (some ⟨β, 0, none⟩) m m) :: fr) ((β, cb (List.replicate m z) e) :: L) s') : JB P TT D n ops Q K s0 fuel listed i0 fr L s := fun hT a hr ho hl hK =>
  JB_ev hi0 hgk (Ev_mk hT hx ht hk he hz hb hm ho) (alloc_fill ho (cb (List.replicate m z) e)).2.2 (fun x _ h => List.mem_cons_of_mem _ h) hd (k _ _ (alloc_fill ho (cb (List.replicate m z) e)).2.2) hT a hr ho hl hK

/-- copy into an owned row of one-cell elements; all of the source fits -/
theorem JO_copy {t e t' b dl dc m c : Nat} {x y : Operand} {ti te : TI} {A1 : Option Addr} {news zs : List Value} (i : Nat) {L' : Hl} (hx : lk fr x = some (.slice (some ⟨b, 0, none⟩) dl dc)) (hy : lk fr y = some (.slice A1 m c)) (ht : tlook TT t = some ti) (hk : ti.kind = .sl e) (he : tlook TT e = some te) (hsz : te.size = 1)
    (hi : L[i]? = some (b, cb zs t')) (hR : Row s A1 m 1 news) (hm : m ≤ dl) (hdl : dl ≤ zs.length) (hL : setL L i (cb (news ++ zs.drop m) t') = L') (hd : Nat.blt d n = true) (k : JO P TT D n ops Q rest ((d, .int .i64 (m : Int)) :: fr) L' s) :
    JO P TT D n ops Q (⟨some d, .call { callee := .builtin .copy, args := #[x, y], argTypes := #[t, t] }, ty, pos, af, none⟩ :: rest) fr L s := fun hT a hr ho => by
  subst hL
  obtain ⟨k1, k2, _⟩ := hT.at_ ht
  rw [hk] at k2
  simp only [TK.fits] at k2
  rw [k2] at k1
  have hte := hT.at_ he
  obtain ⟨inf, i1, i2, i3, i4⟩ := info_of hte
  have hg := fill_mem ho (List.mem_of_getElem? hi)
  have hnl : news.length = m := by simpa using hR.1
  refine JO_ev hd (L' := setL L i (cb (news ++ zs.drop m) t')) (s' := s) (v := .int .i64 (m : Int)) (fun hT _ dst pos af g ρ hρ => ⟨?_, setL_ok ho _ _⟩) k hT a hr ho
  rw [fill_setL ho hi]
  by_cases h0 : m = 0
  · subst h0
    have hn : news = [] := List.eq_nil_of_length_eq_zero hnl
    subst hn
    have hself : setBlk (fill L s) b (cb ([] ++ zs.drop 0) t') = fill L s := by
      refine world_eq (heap_ext fun j => ?_) rfl rfl rfl rfl
      by_cases hj : b = j
      · subst hj
        rw [setBlk_same _ (by rcases Nat.lt_or_ge b (fill L s).heap.size with h1 | h1; exact h1; rw [Array.getElem?_eq_none h1] at hg; cases hg), hg]; simp
      · rw [setBlk_other _ hj]
    rw [hself]
    have hle : ∀ (A2 : Option Addr) (w : World), (Builtin.firstCells te.size 0 (.slice A2 0 c)).run P w = .ok #[] w := fun A2 w => by
      cases A2 <;> simp [Builtin.firstCells, loadCells, loadCellsFrom]
    simp [execOp, resolve, invoke, builtin, Builtin.copy_, hρ x _ hx, hρ y _ hy, run_underlying k1, run_sizeOf' hte, Builtin.lenOf, hle, storeCells, goInt]
  · have h0 : ∃ b off, A1 = some ⟨b, off, none⟩ ∧ CellsAt s b off news := by
      have hl : 0 < news.length := by omega
      obtain ⟨b, off, h1, _⟩ := hR.2.2 0 news[0] (List.getElem?_eq_getElem hl)
      refine ⟨b, off, h1, fun j u hj => ?_⟩
      obtain ⟨b', off', h1', h2⟩ := hR.2.2 j u hj
      rw [h1] at h1'
      injection h1' with h1'; injection h1' with e1 e2; subst e1; subst e2
      exact h2
    obtain ⟨b1, off1, rfl, hcells⟩ := h0
    have hrun := run_copy_row (P := P) (fill L s) t t ty e b 0 dl dc ⟨b1, off1, none⟩ m c zs.toArray t' news k1 (by rw [i1]; simp [i2, hsz]) hg (by rw [hnl]; exact (Nat.min_eq_left hm).symm) (fun j u hj => by rw [add_lit]; exact fill_cell ho (hcells j u hj)) (by simp; omega) hR.2.1
    simp only [execOp, resolve, invoke, builtin, Sem.run_bind, Sem.run_pure, Result.andThen_ok, List.map_toArray, List.map_cons, List.map_nil, hρ x _ hx, hρ y _ hy, hrun, goInt, hnl]
    rw [setRow_setBlk hg]
    simp [cb]

/-- a call in the middle of what is owned: M is the call's own share -/
theorem AC.mid {f : FuncId} {args : List Value} {R : Value → Hl → World → Prop} (X M Y : Hl) (h : AC P D f args (M ++ (X ++ Y)) s (fun v L' s' => ∃ M', L' = M' ++ (X ++ Y) ∧ R v M' s')) :
    AC P D f args (X ++ (M ++ Y)) s (fun v L' s' => ∃ M', L' = X ++ (M' ++ Y) ∧ R v M' s') := by
  have hp : ∀ M' : Hl, (X ++ (M' ++ Y)).Perm (M' ++ (X ++ Y)) := fun M' => by
    rw [← List.append_assoc, ← List.append_assoc]
    exact (List.perm_append_comm).append_right Y
  refine ⟨h.1, fun ho => ?_⟩
  rw [fill_perm (hp M) _ ho]
  refine (h.2 (ho.perm (hp M))).mono ?_
  rintro e w' ⟨v, L', s', h1, rfl, h3, h4, M', rfl, h6⟩
  exact ⟨v, X ++ (M' ++ Y), s', h1, (fill_perm (hp M').symm _ h3), h3.perm (hp M').symm, h4, M', rfl, h6⟩
end
end Go.FL

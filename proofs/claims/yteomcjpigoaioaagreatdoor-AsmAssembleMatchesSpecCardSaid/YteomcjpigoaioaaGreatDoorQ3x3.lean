/- Part 3 of the proof of asmAssembleMatchesSpec_holds: texts V3, FlI, FlJ, Dm, Db, V4, Dp, Da, Dq, FlK, Dr, V9, V10, V11, V14, Du, FlL, Dv, V18, Ea, Eb, W1, Ec, W2, Ed, Nu, FlM, FlN, FlP, Ln. -/
import Derived.Test.YteomcjpigoaioaaGreatDoorQ3x2
import Derived.Maps.AppendAt
import Derived.Laws.MakeOwn
import Derived.Laws.CopyRow
import Derived.MapKept
import Derived.Laws.RangeAny
import Derived.Lib.DecodeN
import Derived.Lib.SmallJoins
import Derived.Lib.ItoaMem
import Derived.Lib.ParseIntBCases
import Derived.Lib.AppendStr
import Derived.Laws.IdiomStrings
import Derived.WideLaws
set_option linter.unusedVariables false
set_option linter.unusedSimpArgs false
set_option linter.unnecessarySimpa false
namespace Go.Proofs.YteomcjpigoaioaaGreatDoor
open Go.FL
attribute [local irreducible] JC JO JA JB thenQ blockQ retQ AC fill CellsAt QE Ev Mid
set_option maxHeartbeats 1000000 in
set_option maxRecDepth 100000 in
theorem sameWords_ac (D : Nat) (L : Hl) (s : World) (A : Option Addr) (n c : Nat) (l : List Int) (hA : Wds s A n c l) (A1 : Option Addr) (n1 c1 : Nat) (l1 : List Int) (hB : Wds s A1 n1 c1 l1) : AC Tryz.prog D 15 [.slice A n c, .slice A1 n1 c1] L s fun v L' _ => v = .bool (decide (l = l1)) ∧ L = L' := by
 have hn := hA.1
 have hc1 := hA.2.1
 have hc2 := hA.2.2.1
 have hn1 := hB.1
 refine AC_enter (TT := TT) (fn := Tryz.f15) TT_ok Tryz.func15 (by kernel_rfl) rfl Tryz.ntmps15 rfl (rs := [.tmp 4]) rfl [(0, _), (1, _)] rfl ?_
 refine JC_seq ?_
 refine JC_region ?_
 refine JO_q (QE_as rfl) rfl ?_
 refine JO_nil ?_
 refine thenQ_n ?_
 refine JC_seq ?_
 refine JC_seq ?_
 refine JC_region ?_
 refine JO_q (QE_mv rfl) rfl ?_
 refine JO_q (QE_lenS rfl rfl rfl) rfl ?_
 refine JO_q (QE_mv rfl) rfl ?_
 refine JO_q (QE_lenS rfl rfl rfl) rfl ?_
 refine JO_q (QE_ne rfl rfl) rfl ?_
 refine JO_nil ?_
 refine thenQ_n ?_
 refine JC_ifN rfl (fun c1 => ?_) (fun c1 => ?_)
 ·
  refine JC_seq ?_
  refine JC_region ?_
  refine JO_q (QE_as rfl) rfl ?_
  refine JO_nil ?_
  refine thenQ_n ?_
  refine JC_ret ?_
  refine thenQ_r ?_
  refine retQ_mk [] L (.inr rfl) (.tmp rfl (.nil)) rfl (Le.refl (D := D) _) (fun sR hS2 => ?_)
  refine ⟨?_, rfl⟩
  have h0 : l ≠ l1 := fun e => by subst e; omega
  simp [resV, h0]; done
 ·
  refine JC_skip ?_
  refine thenQ_n ?_
  refine JC_seq ?_
  refine JC_seq ?_
  refine JC_region ?_
  refine JO_q (QE_as rfl) rfl ?_
  refine JO_nil ?_
  refine thenQ_n ?_
  refine JC_block ?_
  refine JC_loop (γ := Nat) (fun k => [(0, _), (1, _), (4, _), (5, .int .i64 (k : Int))]) (fun _ => _) (fun k tw => Le D s tw ∧ (k ≤ n ∧ ∀ i x, i < k → l[i]? = some x → l1[i]? = some x)) (fun k => n - k) (fun _ _ _ h hl => ⟨h.1.trans hl, h.2⟩) 0 (Keeps.cons rfl (Keeps.cons rfl (Keeps.cons rfl (Keeps.cons rfl (Keeps.nil _))))) rfl ⟨Le.refl _, ⟨Nat.zero_le _, fun i c hi => by omega⟩⟩ ?_
  intro k s2 I2
  have hk0 := I2.2.1
  have hI := I2.2.2
  refine JC_seq ?_
  refine JC_seq ?_
  refine JC_region ?_
  refine JO_q (QE_mv rfl) rfl ?_
  refine JO_q (QE_mv rfl) rfl ?_
  refine JO_q (QE_lenS rfl rfl rfl) rfl ?_
  refine JO_q (QE_lt rfl rfl) rfl ?_
  refine JO_nil ?_
  refine thenQ_n ?_
  refine JC_ifD rfl (fun c3 => ?_) (fun c3 => ?_)
  ·
   have hk : k < n := by omega
   obtain ⟨b, off, x, rfl, hx, hcx, _⟩ := Wds.at_ (hA.le I2.1) hk
   obtain ⟨b1, off1, y, rfl, hy, hcy, _⟩ := Wds.at_ (hB.le I2.1) (show k < n1 by omega)
   refine JC_skip ?_
   refine thenQ_n ?_
   refine JC_seq ?_
   refine JC_block ?_
   refine JC_seq ?_
   refine JC_draw drawsMixed 9 rfl _ (fun _ h => h) ?_
   intro s4 h4
   refine JA_q 0 rfl (by kernel_rfl) (by kernel_rfl) (by kernel_rfl) trivial (QE_mv rfl) rfl ?_
   refine JA_q 1 rfl (by kernel_rfl) (by kernel_rfl) (by kernel_rfl) trivial (QE_mv rfl) rfl ?_
   refine JA_q 2 rfl (by kernel_rfl) (by kernel_rfl) (by kernel_rfl) trivial (QE_ia1 rfl rfl rfl rfl rfl rfl hk) rfl ?_
   refine JA_q 3 rfl (by kernel_rfl) (by kernel_rfl) (by kernel_rfl) trivial (QE_ldsR0 rfl rfl rfl (hcx.le h4) rfl) rfl ?_
   refine JA_q 4 rfl (by kernel_rfl) (by kernel_rfl) (by kernel_rfl) trivial (QE_mv rfl) rfl ?_
   refine JA_q 5 rfl (by kernel_rfl) (by kernel_rfl) (by kernel_rfl) trivial (QE_mv rfl) rfl ?_
   refine JA_q 6 rfl (by kernel_rfl) (by kernel_rfl) (by kernel_rfl) trivial (QE_ia1 rfl rfl rfl rfl rfl rfl (show k < n1 by omega)) rfl ?_
   refine JA_q 7 rfl (by kernel_rfl) (by kernel_rfl) (by kernel_rfl) trivial (QE_ldsR0 rfl rfl rfl (hcy.le h4) rfl) rfl ?_
   refine JA_q 8 rfl (by kernel_rfl) (by kernel_rfl) (by kernel_rfl) trivial (QE_ne rfl rfl) rfl ?_
   refine JA_done (by kernel_rfl) ?_
   refine thenQ_n ?_
   refine JC_ifN rfl (fun c5 => ?_) (fun c5 => ?_)
   ·
    have hE : x ≠ y := by assumption
    refine JC_seq ?_
    refine JC_region ?_
    refine JO_q (QE_as rfl) rfl ?_
    refine JO_nil ?_
    refine thenQ_n ?_
    refine JC_ret ?_
    refine blockQ_r ?_
    refine thenQ_r ?_
    refine thenQ_r ?_
    refine blockQ_r ?_
    refine thenQ_r ?_
    refine retQ_mk [] L (.inr rfl) (.tmp rfl (.nil)) rfl (Le.trans I2.1 h4) (fun sR hS2 => ?_)
    refine ⟨?_, rfl⟩
    have h0 : l ≠ l1 := diff_lists hx hy hE
    simp [resV, h0]; done
   ·
    have hE : x = y := by simpa using c5
    refine JC_skip ?_
    refine blockQ_n ?_
    refine thenQ_n ?_
    refine JC_region ?_
    refine JO_q (QE_mv rfl) rfl ?_
    refine JO_q (QE_add' rfl rfl (w64 (by omega) (by omega))) rfl ?_
    refine JO_q (QE_as rfl) rfl ?_
    refine JO_nil ?_
    refine thenQ_n ⟨(k + 1), [], (Keeps.cons rfl (Keeps.cons rfl (Keeps.cons rfl (Keeps.cons rfl (Keeps.nil _))))), rfl, ⟨(Le.trans I2.1 h4), ⟨by omega, below_succ hI hx (hE ▸ hy)⟩⟩, (by omega)⟩
  ·
   refine JC_exit ?_
   refine thenQ_x ?_
   refine thenQ_x ?_
   refine blockQ_x ?_
   refine thenQ_n ?_
   refine JC_seq ?_
   refine JC_region ?_
   refine JO_q (QE_as rfl) rfl ?_
   refine JO_nil ?_
   refine thenQ_n ?_
   refine JC_ret ?_
   refine retQ_mk [] L (.inr rfl) (.tmp rfl (.nil)) rfl I2.1 (fun sR hS2 => ?_)
   refine ⟨?_, rfl⟩
   have h0 : l = l1 := same_lists (by omega) (fun i x hi h => hI i x (by omega) h)
   simp [resV, h0]; done
set_option maxHeartbeats 1000000 in
set_option maxRecDepth 100000 in
theorem sameBytes_ac (D : Nat) (L : Hl) (s : World) (A : Option Addr) (n c : Nat) (l : List UInt8) (hA : Bts s A n c l) (A1 : Option Addr) (n1 c1 : Nat) (l1 : List UInt8) (hB : Bts s A1 n1 c1 l1) : AC Tryz.prog D 34 [.slice A n c, .slice A1 n1 c1] L s fun v L' _ => v = .bool (decide (l = l1)) ∧ L = L' := by
 refine AC_enter (TT := TT) (fn := Tryz.f34) TT_ok Tryz.func34 (by kernel_rfl) rfl Tryz.ntmps34 rfl (rs := [.tmp 4]) rfl [(0, _), (1, _)] rfl ?_
 refine JC_seq ?_
 refine JC_region ?_
 refine JO_q (QE_as rfl) rfl ?_
 refine JO_nil ?_
 refine thenQ_n ?_
 refine JC_seq ?_
 refine JC_region ?_
 refine JO_q (QE_mv rfl) rfl ?_
 refine JO_q (QE_b2s rfl rfl rfl rfl rfl rfl rfl (hA.le (Le.refl (D := D) _))) rfl ?_
 refine JO_q (QE_mv rfl) rfl ?_
 refine JO_q (QE_b2s rfl rfl rfl rfl rfl rfl rfl (hB.le (Le.refl (D := D) _))) rfl ?_
 refine JO_q (QE_seq rfl rfl) rfl ?_
 refine JO_q (QE_as rfl) rfl ?_
 refine JO_nil ?_
 refine thenQ_n ?_
 refine JC_ret ?_
 refine retQ_mk [] L (.inr rfl) (.tmp rfl (.nil)) rfl (Le.refl (D := D) _) (fun sR hS2 => ?_)
 exact ⟨rfl, rfl⟩
end Go.Proofs.YteomcjpigoaioaaGreatDoor
namespace Go.FL
open Go Go.RowKit
variable {D : Nat}
theorem of_grown {L L' : Hl} {s w' : World} (h : OKL D L s) (hos : w'.os = s.os) (htp : w'.tape = s.tape) (hout : w'.output = s.output) (hsz : s.heap.size ≤ w'.heap.size) (hnd : (L'.map (·.1)).Nodup)
    (hin : ∀ x ∈ L', w'.heap[x.1]? = some x.2) (hkeys : ∀ x ∈ L', x.1 ∈ L.map (·.1) ∨ s.heap.size ≤ x.1) (hold : ∀ k, k < s.heap.size → k ∉ L.map (·.1) → w'.heap[k]? = s.heap[k]?) :
    w' = fill L' (blank D L' w') ∧ OKL D L' (blank D L' w') ∧ Le D s (blank D L' w') := by
  have hlt : ∀ x ∈ L', x.1 < w'.heap.size := fun x hx => by
    have := hin x hx
    rcases Nat.lt_or_ge x.1 w'.heap.size with h1 | h1
    · exact h1
    · rw [Array.getElem?_eq_none h1] at this; cases this
  have hok : OKL D L' (blank D L' w') := ⟨hnd, fun x hx => blank_mem hlt (List.mem_map.2 ⟨x, hx, rfl⟩)⟩
  refine ⟨world_eq (heap_ext fun k => ?_) ?_ ?_ ?_ ?_, hok, ⟨?_, ?_, ?_, by rw [blank_size]; exact hsz, fun k hk => ?_⟩⟩
  · by_cases hk : k ∈ L'.map (·.1)
    · obtain ⟨x, hx, rfl⟩ := List.mem_map.1 hk
      rw [fill_mem hok hx, hin x hx]
    · rw [fill_other hk, blank_other hk]
  · rw [fill_tape, blank_tape]
  · rw [fill_drawn, blank_drawn]
  · rw [fill_os, blank_os]
  · rw [fill_output, blank_output]
  · rw [blank_os, hos]
  · rw [blank_tape, htp]
  · rw [blank_output, hout]
  · by_cases hd : s.heap[k]? = some (dum D)
    · exact .inl hd
    · have hk1 := not_key h hd
      have hk2 : k ∉ L'.map (·.1) := fun hm => by
        obtain ⟨x, hx, rfl⟩ := List.mem_map.1 hm
        rcases hkeys x hx with h1 | h1
        · exact hk1 h1
        · omega
      exact .inr (by rw [blank_other hk2, hold k hk hk1])
inductive Own (e sz : Nat) : Hl → Value → Nat → List Value → Prop
  | nil : Own e sz [] (.slice none 0 0) 0 []
  | blk (b cap n : Nat) (xs ys : List Value) (hn : xs.length = n * sz) (hc : xs.length + ys.length = cap * sz) (hnc : n ≤ cap) (hm : cap ≤ 9223372036854775807) : Own e sz [(b, cb (xs ++ ys) e)] (.slice (some ⟨b, 0, none⟩) n cap) n xs
def Row (s : World) (A : Option Addr) (m sz : Nat) (news : List Value) : Prop :=
  news.length = m * sz ∧ (∀ u ∈ news, u.oneCell' = true) ∧ ∀ j u, news[j]? = some u → ∃ b off, A = some ⟨b, off, none⟩ ∧ s.cell? ⟨b, off + j, none⟩ = some u
theorem Row.of_cells {s : World} {b off m sz : Nat} {news : List Value} (h : CellsAt s b off news) (hl : news.length = m * sz) (h1 : news.all (·.oneCell') = true) : Row s (some ⟨b, off, none⟩) m sz news :=
  ⟨hl, fun u hu => List.all_eq_true.1 h1 u hu, fun j u hj => ⟨b, off, rfl, h j u hj⟩⟩
theorem Row.le {s s' : World} {A : Option Addr} {m sz : Nat} {news : List Value} (h : Row s A m sz news) (hl : Le D s s') : Row s' A m sz news :=
  ⟨h.1, h.2.1, fun j u hj => by obtain ⟨b, off, h1, h2⟩ := h.2.2 j u hj; exact ⟨b, off, h1, hl.cell h2⟩⟩
theorem Own.owns {e sz : Nat} {A : Hl} {v : Value} {n : Nat} {xs : List Value} (h : Own e sz A v n xs) {w : World} (hw : ∀ x ∈ A, w.heap[x.1]? = some x.2) : w.ownsRow 0 e sz v n xs := by
  cases h with
  | nil => exact World.ownsRow_nil w 0 e sz
  | blk b cap n xs ys hn hc hnc hm =>
    refine ⟨hn, .inr ⟨b, cap, (xs ++ ys).toArray, rfl, Nat.zero_le _, hw _ (List.mem_cons_self ..), hnc, by simpa [maxLen] using hm, by simpa using hc, ?_⟩⟩
    rw [← hn]; simp
theorem Own.key {e sz : Nat} {A : Hl} {v : Value} {n : Nat} {xs : List Value} (h : Own e sz A v n xs) (k : Nat) : k ∈ A.map (·.1) ↔ v.ownBlock = some k := by
  cases h with
  | nil => simp [Value.ownBlock]
  | blk b cap n xs ys => simp [Value.ownBlock, eq_comm]
theorem Own.of_owns {e sz : Nat} {w : World} {v : Value} {n : Nat} {xs : List Value} (h : w.ownsRow 0 e sz v n xs) : ∃ A, Own e sz A v n xs ∧ ∀ x ∈ A, w.heap[x.1]? = some x.2 := by
  obtain ⟨h1, h2⟩ := h
  rcases h2 with ⟨rfl, rfl⟩ | ⟨g, cap, cur, rfl, _, hg, hnc, hcm, hcs, ht⟩
  · have : xs = [] := List.eq_nil_of_length_eq_zero (by simpa using h1)
    subst this
    exact ⟨[], .nil, fun x hx => by cases hx⟩
  · have he : cur = (xs ++ cur.toList.drop (n * sz)).toArray := by
      rw [← ht, List.take_append_drop]
    have hcs' : xs.length + (cur.toList.drop (n * sz)).length = cap * sz := by
      rw [← hcs, ← List.length_append]
      have := congrArg Array.size he
      simpa using this.symm
    refine ⟨[(g, cb (xs ++ cur.toList.drop (n * sz)) e)], .blk g cap n xs _ h1 hcs' hnc (by simpa [maxLen] using hcm), fun x hx => ?_⟩
    simp only [List.mem_singleton] at hx
    subst hx
    rw [hg, cb, ← he]
theorem mem_mid {B A L0 : Hl} {x : Nat × Obj} : x ∈ B ++ (A ++ L0) ↔ x ∈ B ∨ x ∈ A ∨ x ∈ L0 := by simp
theorem of_row {B A A' L0 : Hl} {s w' : World} {e sz : Nat} {v v' : Value} {n n' : Nat} {xs xs' : List Value} (h : OKL D (B ++ (A ++ L0)) s) (hO : Own e sz A v n xs) (hO' : Own e sz A' v' n' xs') (hA' : ∀ x ∈ A', w'.heap[x.1]? = some x.2)
    (hg : (fill (B ++ (A ++ L0)) s).grownBy w' v.ownBlock) (hat : v'.ownBlock = v.ownBlock ∨ v'.ownBlock = some s.heap.size) :
    w' = fill (B ++ (A' ++ L0)) (blank D (B ++ (A' ++ L0)) w') ∧ OKL D (B ++ (A' ++ L0)) (blank D (B ++ (A' ++ L0)) w') ∧ Le D s (blank D (B ++ (A' ++ L0)) w') := by
  have hnd := h.nd
  have hkA' : ∀ k, k ∈ A'.map (·.1) → k ∈ A.map (·.1) ∨ k = s.heap.size := fun k hk => by
    rw [hO'.key] at hk
    rcases hat with h1 | h1
    · exact .inl ((hO.key k).2 (h1 ▸ hk))
    · rw [h1] at hk; injection hk with hk; exact .inr hk.symm
  have hsize := hg.size
  rw [fill_size] at hsize
  have hlt : ∀ x ∈ B ++ (A ++ L0), x.1 < s.heap.size := fun x hx => h.lt hx
  simp only [List.map_append, List.nodup_append, List.mem_append] at hnd
  obtain ⟨nB, ⟨nA, nL, dAL⟩, dB⟩ := hnd
  have hrest : ∀ x, x ∈ B ∨ x ∈ L0 → w'.heap[x.1]? = some x.2 := fun x hx => by
    have hmem : x ∈ B ++ (A ++ L0) := mem_mid.2 (by rcases hx with h1 | h1; exact .inl h1; exact .inr (.inr h1))
    rw [hg.block x.1 (by rw [fill_size]; exact hlt x hmem), fill_mem h hmem]
    intro he
    have hk := (hO.key x.1).2 he.symm
    rcases hx with h1 | h1
    · exact dB _ (List.mem_map.2 ⟨x, h1, rfl⟩) _ (.inl hk) rfl
    · exact dAL _ hk _ (List.mem_map.2 ⟨x, h1, rfl⟩) rfl
  refine of_grown h (hg.os.trans (fill_os _ _)) (hg.tape.trans (fill_tape _ _)) (hg.output.trans (fill_output _ _)) hsize ?_ ?_ ?_ ?_
  · have nA' : (A'.map (·.1)).Nodup := by cases hO' <;> simp
    simp only [List.map_append, List.nodup_append, List.mem_append]
    refine ⟨nB, ⟨nA', nL, fun a ha b hb he => ?_⟩, fun a ha b hb he => ?_⟩
    · subst he
      rcases hkA' a ha with h1 | h1
      · exact dAL _ h1 _ hb rfl
      · obtain ⟨x, hx, rfl⟩ := List.mem_map.1 hb
        have := hlt x (mem_mid.2 (.inr (.inr hx))); omega
    · subst he
      rcases hb with hb | hb
      · rcases hkA' a hb with h1 | h1
        · exact dB _ ha _ (.inl h1) rfl
        · obtain ⟨x, hx, rfl⟩ := List.mem_map.1 ha
          have := hlt x (mem_mid.2 (.inl hx)); omega
      · exact dB _ ha _ (.inr hb) rfl
  · intro x hx
    rcases mem_mid.1 hx with h1 | h1 | h1
    · exact hrest x (.inl h1)
    · exact hA' x h1
    · exact hrest x (.inr h1)
  · intro x hx
    rcases mem_mid.1 hx with h1 | h1 | h1
    · exact .inl (List.mem_map.2 ⟨x, mem_mid.2 (.inl h1), rfl⟩)
    · rcases hkA' x.1 (List.mem_map.2 ⟨x, h1, rfl⟩) with h2 | h2
      · exact .inl (by rw [List.map_append, List.map_append]; simp only [List.mem_append]; exact .inr (.inl h2))
      · exact .inr (by omega)
    · exact .inl (List.mem_map.2 ⟨x, mem_mid.2 (.inr (.inr h1)), rfl⟩)
  · intro k hk hn
    rw [hg.block k (by rw [fill_size]; exact hk), fill_other hn]
    intro he
    exact hn (by rw [List.map_append, List.map_append]; simp only [List.mem_append]; exact .inr (.inl ((hO.key k).2 he.symm)))
section
variable {P : Program} {TT : TyTab} {n : Nat} {Q : APost} {fr : Fr} {L L' K : Hl} {s s' s0 : World} {ops : Array Oper} {rest : List Oper} {d ty : Nat} {op : Op} {pos : String} {af : Array Edge} {v : Value}
theorem Ev_app {t e m c k sz : Nat} {x y : Operand} {ti te : TI} {A1 : Option Addr} {news xs : List Value} (B A L0 : Hl) (hT : TabOK P TT) (hx : lk fr x = some v) (hy : lk fr y = some (.slice A1 m c)) (ht : tlook TT t = some ti) (hk : ti.kind = .sl e) (he : tlook TT e = some te) (hsz : te.size = sz)
    (hO : Own e sz A v k xs) (hR : Row s A1 m sz news) (h63 : (k + m) * te.bytes ≤ 140737488355328 ∧ k + m ≤ 9223372036854775807) (ho : OKL D (B ++ (A ++ L0)) s) :
    ∃ v' A' s', Ev P TT D fr (.call { callee := .builtin .append, args := #[x, y], argTypes := #[t, t] }) ty (B ++ (A ++ L0)) s (.value v') (B ++ (A' ++ L0)) s' ∧ Le D s s' ∧ Own e sz A' v' (k + m) (xs ++ news) := by
  have hok := hT.at_ ht
  obtain ⟨k1, k2, _⟩ := hok
  rw [hk] at k2
  simp only [TK.fits] at k2
  rw [k2] at k1
  have hte := hT.at_ he
  obtain ⟨i, i1, i2, i3, i4⟩ := info_of hte
  have hpos : 0 < te.size := hte.2.2.2.2.2.1
  have hzs : te.zero.cells.size = te.size := by rw [zero_cells hte]; simpa using hte.2.2.2.1
  have hin : ∀ x ∈ A, (fill (B ++ (A ++ L0)) s).heap[x.1]? = some x.2 := fun x hx => fill_mem ho (mem_mid.2 (.inr (.inl hx)))
  have hown := hO.owns hin
  by_cases hm : m = 0
  · subst hm
    have hn : news = [] := List.eq_nil_of_length_eq_zero (by simpa using hR.1)
    subst hn
    refine ⟨v, A, s, fun hT ho dst pos af g ρ hρ => ⟨?_, ho⟩, Le.refl _, by simpa using hO⟩
    have hle : ∀ (A2 : Option Addr) (w : World), (Builtin.firstCells te.size 0 (.slice A2 0 c)).run P w = .ok #[] w := fun A2 w => by
      cases A2 <;> simp [Builtin.firstCells, loadCells, loadCellsFrom]
    cases hO with
    | nil => simp [execOp, resolve, invoke, builtin, Builtin.append_, hρ x _ hx, hρ y _ hy, run_underlying k1, run_sizeOf' hte, Builtin.lenOf, hle]
    | blk b cap n xs ys hn hc hnc hm => simp [execOp, resolve, invoke, builtin, Builtin.append_, hρ x _ hx, hρ y _ hy, run_underlying k1, run_sizeOf' hte, Builtin.lenOf, hle, hnc, storeCells]
  · have h0 : ∃ b off, A1 = some ⟨b, off, none⟩ ∧ CellsAt s b off news := by
      have hl : 0 < news.length := by rw [hR.1, ← hsz]; exact Nat.mul_pos (Nat.pos_of_ne_zero hm) hpos
      obtain ⟨b, off, h1, _⟩ := hR.2.2 0 news[0] (List.getElem?_eq_getElem hl)
      refine ⟨b, off, h1, fun j u hj => ?_⟩
      obtain ⟨b', off', h1', h2⟩ := hR.2.2 j u hj
      rw [h1] at h1'
      injection h1' with h1'; injection h1' with e1 e2; subst e1; subst e2
      exact h2
    obtain ⟨b, off, rfl, hcells⟩ := h0
    obtain ⟨v', w', hrun, hown', hgr, _, hat⟩ := run_append_own_at (P := P) (fill (B ++ (A ++ L0)) s) 0 t ty e i te.zero sz te.bytes k1 i1 i4 (i2.trans hsz) i3 (by rw [hzs, hsz]) (by rw [← hsz]; exact hpos) v k xs hown ⟨b, off, none⟩ m c news hR.1
      (fun j u hj => by rw [add_lit]; exact fill_cell ho (hcells j u hj)) hR.2.1 (by simpa [maxLen] using h63.2) h63.1 (Nat.zero_le _)
    obtain ⟨A', hO', hA'⟩ := Own.of_owns hown'
    rw [fill_size] at hat
    obtain ⟨r1, r2, r3⟩ := of_row (D := D) ho hO hO' hA' hgr hat
    refine ⟨v', A', blank D (B ++ (A' ++ L0)) w', fun hT ho dst pos af g ρ hρ => ⟨?_, r2⟩, r3, hO'⟩
    rw [← r1]
    simp only [execOp, resolve, invoke, builtin, Sem.run_bind, Sem.run_pure, Result.andThen_ok, List.map_toArray, List.map_cons, List.map_nil, hρ x _ hx, hρ y _ hy, hrun]
theorem JO_app {t e m c k sz : Nat} {x y : Operand} {ti te : TI} {A1 : Option Addr} {news xs : List Value} (B A L0 : Hl) (hL : L = B ++ (A ++ L0)) (hx : lk fr x = some v) (hy : lk fr y = some (.slice A1 m c)) (ht : tlook TT t = some ti) (hk : ti.kind = .sl e) (he : tlook TT e = some te) (hsz : te.size = sz)
    (hO : Own e sz A v k xs) (hR : Row s A1 m sz news) (h63 : (k + m) * te.bytes ≤ 140737488355328 ∧ k + m ≤ 9223372036854775807) (hd : Nat.blt d n = true)
    (kk : ∀ v' A' s', Le D s s' → Own e sz A' v' (k + m) (xs ++ news) → JO P TT D n ops Q rest ((d, v') :: fr) (B ++ (A' ++ L0)) s') :
    JO P TT D n ops Q (⟨some d, .call { callee := .builtin .append, args := #[x, y], argTypes := #[t, t] }, ty, pos, af, none⟩ :: rest) fr L s := fun hT a hr ho => by
  subst hL
  obtain ⟨v', A', s', h1, h2, h3⟩ := Ev_app (ty := ty) B A L0 hT hx hy ht hk he hsz hO hR h63 ho
  exact JO_ev hd h1 (kk v' A' s' h2 h3) hT a hr ho
theorem JB_app {i0 t e m c k sz : Nat} {g : Option (Nat × Bool)} {fuel : Nat} {listed : Array Bool} {x y : Operand} {ti te : TI} {A1 : Option Addr} {news xs : List Value} (hi0 : ops[i0]? = some ⟨some d, .call { callee := .builtin .append, args := #[x, y], argTypes := #[t, t] }, ty, pos, af, g⟩) (hgk : GOK ops fr g)
    (B A L0 : Hl) (hL : L = B ++ (A ++ L0)) (hx : lk fr x = some v) (hy : lk fr y = some (.slice A1 m c)) (ht : tlook TT t = some ti) (hk : ti.kind = .sl e) (he : tlook TT e = some te) (hsz : te.size = sz)
    (hO : Own e sz A v k xs) (hR : Row s A1 m sz news) (h63 : (k + m) * te.bytes ≤ 140737488355328 ∧ k + m ≤ 9223372036854775807) (hd : Nat.blt d n = true) (hK : ∀ A', ∀ x ∈ K, x ∈ B ++ (A ++ L0) → x ∈ B ++ (A' ++ L0))
    (kk : ∀ v' A' s', Le D s s' → Own e sz A' v' (k + m) (xs ++ news) → JA P TT D n ops Q K s0 fuel (listed.setIfInBounds i0 true) ((d, v') :: fr) (B ++ (A' ++ L0)) s') :
    JB P TT D n ops Q K s0 fuel listed i0 fr L s := fun hT a hr ho hl hKL => by
  subst hL
  obtain ⟨v', A', s', h1, h2, h3⟩ := Ev_app (ty := ty) B A L0 hT hx hy ht hk he hsz hO hR h63 ho
  exact JB_ev hi0 hgk h1 h2 (hK A') hd (kk v' A' s' h2 h3) hT a hr ho hl hKL
theorem JO_bs0 {t e sz : Nat} {ti te : TI} (ht : tlook TT t = some ti) (hk : ti.kind = .sl e) (he : tlook TT e = some te) (hd : Nat.blt d n = true) (k : ∀ β s', Le D s s' → Own e sz [(β, cb [] e)] (.slice (some ⟨β, 0, none⟩) 0 0) 0 [] → JO P TT D n ops Q rest ((d, .slice (some ⟨β, 0, none⟩) 0 0) :: fr) ((β, cb [] e) :: L) s') :
    JO P TT D n ops Q (⟨some d, .buildSlice t 0 #[], ty, pos, af, none⟩ :: rest) fr L s := fun hT a hr ho => by
  obtain ⟨h1, h2, h3⟩ := alloc_fill ho (cb [] e)
  obtain ⟨k1, k2, _⟩ := hT.at_ ht
  rw [hk] at k2
  simp only [TK.fits] at k2
  rw [k2] at k1
  refine JO_ev hd (L' := (s.heap.size, cb [] e) :: L) (s' := s.alloc (dum D)) (v := .slice (some ⟨s.heap.size, 0, none⟩) 0 0) (fun hT _ dst pos af g ρ hρ => ⟨?_, h2⟩) (k _ _ h3 (.blk s.heap.size 0 0 [] [] (by simp) (by simp) (Nat.le_refl _) (by omega))) hT a hr ho
  rw [← h1]
  simp [execOp, Instr.buildSlice, run_underlying k1, run_sizeOf' (hT.at_ he), Instr.fill, run_new, fill_size, cb, show Array.range 0 = #[] from rfl]
theorem AC.mid {f : FuncId} {args : List Value} {R : Value → Hl → World → Prop} (X M Y : Hl) (h : AC P D f args (M ++ (X ++ Y)) s (fun v L' s' => ∃ M', L' = M' ++ (X ++ Y) ∧ R v M' s')) :
    AC P D f args (X ++ (M ++ Y)) s (fun v L' s' => ∃ M', L' = X ++ (M' ++ Y) ∧ R v M' s') := by
  have hp : ∀ M' : Hl, (X ++ (M' ++ Y)).Perm (M' ++ (X ++ Y)) := fun M' => by
    rw [← List.append_assoc, ← List.append_assoc]
    exact (List.perm_append_comm).append_right Y
  refine ⟨h.1, fun ho => ?_⟩
  rw [fill_perm (hp M) _ ho]
  refine (h.2 (ho.perm (hp M))).mono ?_
  rintro e w' ⟨v, L', s', h1, rfl, h3, h4, M', rfl, h6⟩
  exact ⟨v, X ++ (M' ++ Y), s', h1, (fill_perm (hp M').symm _ h3), h3.perm (hp M').symm, h4, M', rfl, h6⟩
end
end Go.FL
namespace Go.FL
open Go Go.RowKit
structure KeyK (κ : Type) [DecidableEq κ] (d : TypeDesc) (kf : κ → Value) : Prop where
  same : ∀ a b, Instr.sameNow d (kf a) (kf b) = some (decide (a = b))
  bits : ∀ a, Instr.sameBits 10000 (kf a) (kf a) = true
  check : ∀ (P : Program) (w : World) (t : Nat) (e : Bool) (a : κ), P.underlying t = some d → (Instr.checkKey e 10000 t (kf a)).run P w = .ok () w
theorem KeyK.int (k : IntKind) : KeyK Int (.int k) (Value.int k) :=
  ⟨fun a b => by simp [Instr.sameNow]; rfl, fun a => by simp [Instr.sameBits], fun P w t e a h => by unfold Instr.checkKey; simp [run_underlying h]⟩
theorem ba_beq (a b : List UInt8) : ((⟨a.toArray⟩ : ByteArray) == ⟨b.toArray⟩) = decide (a = b) := by
  have e : ((⟨a.toArray⟩ : ByteArray) == ⟨b.toArray⟩) = (a.toArray == b.toArray) := rfl
  rw [e]
  by_cases h : a = b <;> simp [h]
theorem KeyK.str : KeyK (List UInt8) .string (fun l => St l) :=
  ⟨fun a b => by simp only [Instr.sameNow, ba_beq], fun a => by simp [Instr.sameBits, ba_beq], fun P w t e a h => by unfold Instr.checkKey; simp [run_underlying h]⟩
section
variable {κ : Type} [DecidableEq κ] {dk : TypeDesc} {kf : κ → Value}
def mp (kf : κ → Value) (es : List (κ × Value × Nat)) (ck : Nat) : Obj := .map (es.map fun x => ⟨kf x.1, x.2.1, x.2.2⟩).toArray ck
def assoc : List (κ × Value × Nat) → κ → Option Value
  | [], _ => none
  | x :: r, k => if k = x.1 then some x.2.1 else assoc r k
def mset (es : List (κ × Value × Nat)) (k : κ) (v : Value) (ck : Nat) : List (κ × Value × Nat) := match es with
  | [] => [(k, v, ck)]
  | x :: r => if k = x.1 then (x.1, v, x.2.2) :: r else x :: mset r k v ck
theorem assoc_mset (es : List (κ × Value × Nat)) (k : κ) (v : Value) (ck : Nat) (j : κ) : assoc (mset es k v ck) j = if j = k then some v else assoc es j := by
  induction es with
  | nil => simp [mset, assoc]
  | cons x r ih =>
    simp only [mset]
    by_cases h : k = x.1
    · simp only [h, if_true, assoc]
      by_cases hj : j = x.1 <;> simp [hj, h]
    · simp only [h, if_false, assoc, ih]
      by_cases hj : j = x.1
      · have : ¬ x.1 = k := fun e => h e.symm
        simp [hj, this]
      · simp [hj]
theorem findNow_assoc (K : KeyK κ dk kf) (es : List (κ × Value × Nat)) (k : κ) (i : Nat) :
    (assoc es k = none ∧ Instr.findNow dk (kf k) (es.map fun x => ⟨kf x.1, x.2.1, x.2.2⟩) i = some none) ∨
    ∃ j v b, assoc es k = some v ∧ es[j]? = some (k, v, b) ∧ (∀ v' ck, mset es k v' ck = es.set j (k, v', b)) ∧ Instr.findNow dk (kf k) (es.map fun x => ⟨kf x.1, x.2.1, x.2.2⟩) i = some (some (i + j, v)) := by
  induction es generalizing i with
  | nil => exact .inl ⟨rfl, rfl⟩
  | cons x r ih =>
    obtain ⟨a, v, b⟩ := x
    simp only [List.map_cons, Instr.findNow, K.same]
    by_cases h : k = a
    · subst h
      exact .inr ⟨0, v, b, by simp [assoc], rfl, fun v' ck => by simp [mset], by simp⟩
    · rcases ih (i + 1) with ⟨h1, h2⟩ | ⟨j, v', b', h1, h2, h3, h4⟩
      · exact .inl ⟨by simp [assoc, h, h1], by simp [h, h2]⟩
      · exact .inr ⟨j + 1, v', b', by simp [assoc, h, h1], by simpa using h2, fun v'' ck => by simp [mset, h, h3], by simp [h, h4]; omega⟩
variable {P : Program} {TT : TyTab} {D n : Nat} {Q : APost} {fr : Fr} {L L' K : Hl} {s s' s0 : World} {ops : Array Oper} {rest : List Oper} {d ty : Nat} {op : Op} {pos : String} {af : Array Edge} {v : Value}
def MapTy (P : Program) (t : Nat) (dk : TypeDesc) (z : Value) : Prop := ∃ kt et, P.underlying t = some (.map kt et) ∧ P.underlying kt = some dk ∧ ∀ w, (zeroValue et).run P w = .ok z w
theorem run_lookup' (KK : KeyK κ dk kf) {t b : Nat} {z : Value} (hm : MapTy P t dk z) {es : List (κ × Value × Nat)} {ck : Nat} {w : World} (hb : w.heap[b]? = some (mp kf es ck)) (k : κ) (c : Bool) :
    (Instr.lookup t (.map (some b)) (kf k) c).run P w = .ok (if c then .tuple #[(assoc es k).getD z, .bool (assoc es k).isSome] else (assoc es k).getD z) w := by
  obtain ⟨kt, et, h1, h2, h3⟩ := hm
  rcases findNow_assoc KK es k 0 with ⟨a1, a2⟩ | ⟨j, v, bn, a1, _, _, a2⟩
  · simp only [Instr.lookup, Sem.run_bind, run_underlying h1, Result.andThen_ok, Go.MapKept.run_getObj_map hb, Sem.run_pure, KK.check P w kt _ k h2, Go.MapKept.run_findKey h2 a2, h3, a1]
    cases c <;> rfl
  · simp only [Instr.lookup, Sem.run_bind, run_underlying h1, Result.andThen_ok, Go.MapKept.run_getObj_map hb, Sem.run_pure, KK.check P w kt _ k h2, Go.MapKept.run_findKey h2 a2, a1]
    cases c <;> rfl
theorem QE_lookup2 (KK : KeyK κ dk kf) {t b : Nat} {x y : Operand} {z : Value} (i : Nat) (hm : MapTy P t dk z) {es : List (κ × Value × Nat)} {ck : Nat} {k : κ} (hx : lk fr x = some (.map (some b))) (hy : lk fr y = some (kf k)) (hi : K[i]? = some (b, mp kf es ck)) :
    QE P TT D fr (.lookup t x y true) ty K s0 (.tuple #[(assoc es k).getD z, .bool (assoc es k).isSome]) := fun hT dst pos af g ρ hρ L s ho _ hK => by
  have hb := fill_mem ho (hK _ (List.mem_of_getElem? hi))
  simp only [execOp, hρ x _ hx, hρ y _ hy, Sem.run_bind, run_lookup' KK hm hb, Result.andThen_ok, Sem.run_pure]
  rfl
omit [DecidableEq κ] in
theorem Ev_mkmap {t : Nat} (kf : κ → Value) (ho : OKL D L s) : Ev P TT D fr (.makeMap t none) ty L s (.value (.map (some s.heap.size))) ((s.heap.size, mp kf [] 0) :: L) (s.alloc (dum D)) := fun hT _ dst pos af g ρ _ => by
  obtain ⟨h1, h2, h3⟩ := alloc_fill ho (mp kf [] 0)
  refine ⟨?_, h2⟩
  rw [← h1]
  simp [execOp, Instr.makeMap, fill_size, mp]
omit [DecidableEq κ] in
theorem JO_mkmap {t : Nat} (kf : κ → Value) (hd : Nat.blt d n = true) (k : ∀ β s', Le D s s' → JO P TT D n ops Q rest ((d, .map (some β)) :: fr) ((β, mp kf [] 0) :: L) s') :
    JO P TT D n ops Q (⟨some d, .makeMap t none, ty, pos, af, none⟩ :: rest) fr L s := fun hT a hr ho => JO_ev hd (Ev_mkmap kf ho) (k _ _ (alloc_fill ho (mp kf [] 0)).2.2) hT a hr ho
theorem Ev_mupd (KK : KeyK κ dk kf) {t b : Nat} {x y z : Operand} {zv : Value} (i : Nat) (hm : MapTy P t dk zv) {es : List (κ × Value × Nat)} {ck : Nat} {k : κ} (hx : lk fr x = some (.map (some b))) (hy : lk fr y = some (kf k)) (hz : lk fr z = some v) (hi : L[i]? = some (b, mp kf es ck)) :
    ∃ ck', Ev P TT D fr (.mapUpdate t x y z) ty L s .skip (setL L i (mp kf (mset es k v ck) ck')) s := by
  obtain ⟨kt, et, h1, h2, h3⟩ := hm
  rcases findNow_assoc KK es k 0 with ⟨a1, a2⟩ | ⟨j, v', bn, a1, a3, a4, a2⟩
  · refine ⟨ck + 1, fun hT ho dst pos af g ρ hρ => ⟨?_, setL_ok ho _ _⟩⟩
    have hb := fill_mem ho (List.mem_of_getElem? hi)
    have hms : mset es k v ck = es ++ [(k, v, ck)] := by
      clear hi a2 hb
      induction es with
      | nil => rfl
      | cons x r ih =>
        simp only [assoc] at a1
        split at a1
        · cases a1
        · rename_i h; simp [mset, h, ih a1]
    rw [fill_setL ho hi]
    simp only [execOp, hρ x _ hx, hρ y _ hy, hρ z _ hz, Instr.mapUpdate, Sem.run_bind, run_underlying h1, Result.andThen_ok, Go.MapKept.run_getObj_map hb, Sem.run_pure, KK.check P _ kt _ k h2, Go.MapKept.run_findKey h2 a2, Go.MapKept.run_setObj_map _ hb]
    simp [setBlk, mp, hms]
  · refine ⟨ck, fun hT ho dst pos af g ρ hρ => ⟨?_, setL_ok ho _ _⟩⟩
    have hb := fill_mem ho (List.mem_of_getElem? hi)
    rw [fill_setL ho hi]
    have hkey : ((((es.map fun x => (⟨kf x.1, x.2.1, x.2.2⟩ : MapEntry)).toArray)[0 + j]?.map (·.key)).getD (kf k)) = kf k := by simp [a3]
    simp only [execOp, hρ x _ hx, hρ y _ hy, hρ z _ hz, Instr.mapUpdate, Sem.run_bind, run_underlying h1, Result.andThen_ok, Go.MapKept.run_getObj_map hb, Sem.run_pure, KK.check P _ kt _ k h2, Go.MapKept.run_findKey h2 a2, hkey, Instr.keyThatStays, KK.bits, if_true, Go.MapKept.run_setObj_map _ hb, a4]
    have hmod : ((es.map fun x => (⟨kf x.1, x.2.1, x.2.2⟩ : MapEntry)).toArray).modify (0 + j) (fun e => { e with key := kf k, val := v }) = ((es.set j (k, v, bn)).map fun x => (⟨kf x.1, x.2.1, x.2.2⟩ : MapEntry)).toArray := by
      apply Array.ext_getElem?
      intro q
      rw [Array.getElem?_modify]
      by_cases hq : 0 + j = q
      · have : j = q := by omega
        subst this
        obtain ⟨hlt, _⟩ := List.getElem?_eq_some_iff.1 a3
        simp [hlt, a3]
        have := List.getElem?_eq_some_iff.1 a3
        obtain ⟨_, e⟩ := this
        simp [e]
      · have hne : j ≠ q := by omega
        simp [hq, hne]
    rw [hmod]
    rfl
theorem JB_mupd {i0 : Nat} {g : Option (Nat × Bool)} {fuel : Nat} {listed : Array Bool} (KK : KeyK κ dk kf) {t b : Nat} {x y z : Operand} {zv : Value} (hi0 : ops[i0]? = some ⟨none, .mapUpdate t x y z, ty, pos, af, g⟩) (hg : GOK ops fr g) (i : Nat) (hm : MapTy P t dk zv) {es : List (κ × Value × Nat)} {ck : Nat} {k : κ} (hx : lk fr x = some (.map (some b))) (hy : lk fr y = some (kf k)) (hz : lk fr z = some v) (hi : L[i]? = some (b, mp kf es ck))
    (hK' : ∀ x ∈ K, x ∈ L.eraseIdx i) (kk : ∀ ck', JA P TT D n ops Q K s0 fuel (listed.setIfInBounds i0 true) fr (setL L i (mp kf (mset es k v ck) ck')) s) : JB P TT D n ops Q K s0 fuel listed i0 fr L s := by
  obtain ⟨ck', h⟩ := Ev_mupd (TT := TT) (D := D) (s := s) (ty := ty) KK i hm hx hy hz hi
  exact JB_sk hi0 hg h (Le.refl _) (fun x hx _ => erase_setL (hK' x hx) _) (kk ck')
end
end Go.FL
namespace Go.Proofs.YteomcjpigoaioaaGreatDoor
open Go Go.FL
def wv (l : List Int) : List Value := l.map (Value.int .u32)
def bv (l : List UInt8) : List Value := l.map fun x => Value.int .u8 (x.toNat : Int)
theorem wv_len (l : List Int) : (wv l).length = l.length := by simp [wv]
theorem bv_len (l : List UInt8) : (bv l).length = l.length := by simp [bv]
theorem Wds.row {s : World} {A : Option Addr} {n c : Nat} {l : List Int} (h : Wds s A n c l) : Row s A n 1 (wv l) :=
  ⟨by simp [wv, h.1], fun u hu => by simp [wv] at hu; obtain ⟨x, _, rfl⟩ := hu; rfl, fun j u hj => by
    simp only [wv, List.getElem?_map] at hj
    cases hx : l[j]? with
    | none => simp [hx] at hj
    | some x =>
      simp [hx] at hj; subst hj
      obtain ⟨b, off, cs, h1, h2, _, rfl, _⟩ := h.2.2.2 j x hx
      exact ⟨b, off, h1, by simpa using h2 0 _ rfl⟩⟩
theorem Bts.row {s : World} {A : Option Addr} {n c : Nat} {l : List UInt8} (h : Bts s A n c l) : Row s A n 1 (bv l) :=
  ⟨by simp [bv, h.1], fun u hu => by simp [bv] at hu; obtain ⟨x, _, rfl⟩ := hu; rfl, fun j u hj => by
    simp only [bv, List.getElem?_map] at hj
    cases hx : l[j]? with
    | none => simp [hx] at hj
    | some x =>
      simp [hx] at hj; subst hj
      obtain ⟨b, off, cs, h1, h2, _, rfl⟩ := h.2.2.2 j x hx
      exact ⟨b, off, h1, by simpa using h2 0 _ rfl⟩⟩
theorem Bts.nil (s : World) (A : Option Addr) (c : Nat) (hc : c ≤ 9223372036854775807) : Bts s A 0 c [] := ⟨rfl, Nat.zero_le _, hc, fun i x h => by cases h⟩
theorem Wds.nil (s : World) (A : Option Addr) (c : Nat) (hc : c ≤ 9223372036854775807) : Wds s A 0 c [] := ⟨rfl, Nat.zero_le _, hc, fun i x h => by cases h⟩
theorem Own.slice {e sz : Nat} {A : Hl} {v : Value} {n : Nat} {xs : List Value} (h : Own e sz A v n xs) : ∃ Ad c, v = .slice Ad n c ∧ n ≤ c ∧ c ≤ 9223372036854775807 := by
  cases h with
  | nil => exact ⟨none, 0, rfl, Nat.le_refl _, by omega⟩
  | blk b cap n xs ys hn hc hnc hm => exact ⟨_, cap, rfl, hnc, hm⟩
theorem Own.bts {e : Nat} {A : Hl} {Ad : Option Addr} {n c : Nat} {l : List UInt8} {s : World} (h : Own e 1 A (.slice Ad n c) n (bv l)) (hp : ∀ b zs t, (b, cb zs t) ∈ A → CellsAt s b 0 zs) : Bts s Ad n c l := by
  generalize hv : Value.slice Ad n c = v at h
  generalize hx : bv l = xs at h
  cases h with
  | nil =>
    injection hv with e1 e2 e3
    have : l = [] := by cases l with
      | nil => rfl
      | cons y l => simp [bv] at hx
    subst this; subst e3; exact Bts.nil s Ad 0 (by omega)
  | blk b cap n xs ys hn hc hnc hm =>
    injection hv with e1 e2 e3
    subst e1; subst e3; subst hx
    refine ⟨by simpa [bv] using hn.symm, hnc, hm, fun i x hi => ⟨b, 0, [.int .u8 (x.toNat : Int)], rfl, fun j u hj => ?_, rfl, rfl⟩⟩
    have hc := hp b _ e (List.mem_cons_self ..)
    cases j with
    | zero =>
      simp at hj; subst hj
      have := hc i (.int .u8 (x.toNat : Int)) (by rw [List.getElem?_append_left (by simp [bv]; exact (List.getElem?_eq_some_iff.1 hi).1)]; simp [bv, hi])
      simpa using this
    | succ j => simp at hj
theorem Own.wds {e : Nat} {A : Hl} {Ad : Option Addr} {n c : Nat} {l : List Int} {s : World} (h : Own e 1 A (.slice Ad n c) n (wv l)) (hu : ∀ x ∈ l, U32 x) (hp : ∀ b zs t, (b, cb zs t) ∈ A → CellsAt s b 0 zs) : Wds s Ad n c l := by
  generalize hv : Value.slice Ad n c = v at h
  generalize hx : wv l = xs at h
  cases h with
  | nil =>
    injection hv with e1 e2 e3
    have : l = [] := by cases l with
      | nil => rfl
      | cons y l => simp [wv] at hx
    subst this; subst e3; exact Wds.nil s Ad 0 (by omega)
  | blk b cap n xs ys hn hc hnc hm =>
    injection hv with e1 e2 e3
    subst e1; subst e3; subst hx
    refine ⟨by simpa [wv] using hn.symm, hnc, hm, fun i x hi => ⟨b, 0, [.int .u32 x], rfl, fun j u hj => ?_, rfl, rfl, hu x (List.mem_of_getElem? hi)⟩⟩
    have hc := hp b _ e (List.mem_cons_self ..)
    cases j with
    | zero =>
      simp at hj; subst hj
      have := hc i (.int .u32 x) (by rw [List.getElem?_append_left (by simp [wv]; exact (List.getElem?_eq_some_iff.1 hi).1)]; simp [wv, hi])
      simpa using this
    | succ j => simp at hj
theorem Wds.u32 {s : World} {A : Option Addr} {n c : Nat} {l : List Int} (h : Wds s A n c l) : ∀ x ∈ l, U32 x := fun x hx => by
  obtain ⟨i, hi⟩ := List.getElem?_of_mem hx
  obtain ⟨b, off, cs, h1, h2, _, rfl, h4⟩ := h.2.2.2 i x hi
  exact h4
theorem Bts.tail {s : World} {A : Option Addr} {n c : Nat} {x : UInt8} {l : List UInt8} (h : Bts s A n c (x :: l)) : Bts s (if c = 1 then A else A.map (·.add (1 * 1))) (n - 1) (c - 1) l :=
  ⟨by have := h.1; simp at this; omega, by have := h.2.1; omega, by have := h.2.2.1; omega, fun i y hi => by
    obtain ⟨b, off, cs, h1, h2, h3, h4⟩ := h.2.2.2 (i + 1) y (by simpa using hi)
    have hl : i < l.length := (List.getElem?_eq_some_iff.1 hi).1
    have hn := h.1
    simp at hn
    have hc := h.2.1
    subst h1
    refine ⟨b, off + 1, cs, ?_, ?_, h3, h4⟩
    · rw [if_neg (by omega)]; simp [add_lit]
    · rw [show off + 1 + i * 1 = off + (i + 1) * 1 by omega]; exact h2⟩
def w32 (x : Int) : Int := x % 4294967296
def comp (k x y : Int) : Int :=
  if k = 1 then w32 (x + y) else if k = 2 then w32 (x - y) else if k = 3 then w32 (x * y) else if k = 4 then x / y else if k = 5 then x % y
  else if k = 6 then ((x.toNat &&& y.toNat : Nat) : Int) else if k = 7 then ((x.toNat ||| y.toNat : Nat) : Int) else if k = 8 then ((x.toNat ^^^ y.toNat : Nat) : Int)
  else if k = 9 then (((x.toNat <<< y.toNat) % 4294967296 : Nat) : Int) else if k = 10 then ((x.toNat >>> y.toNat : Nat) : Int)
  else if k = 11 then (if x = y then 1 else 0) else if k = 12 then (if x < y then 1 else 0) else x
def findI (ins : List Ins) (c : Int) : Option Ins := ins.find? fun x => decide (x.code = c)
end Go.Proofs.YteomcjpigoaioaaGreatDoor
namespace Go.FL
open Go Go.RowKit Go.Proofs.YteomcjpigoaioaaGreatDoor
theorem QE_cast {P : Program} {TT : TyTab} {D : Nat} {fr : Fr} {ty : Nat} {op : Op} {K : Hl} {s0 : World} {v v' : Value} (h : QE P TT D fr op ty K s0 v) (e : v = v') : QE P TT D fr op ty K s0 v' := e ▸ h
theorem notEq_and : (BinOp.and ≠ .eql ∧ BinOp.and ≠ .neq) := ⟨(by intro h; cases h), (by intro h; cases h)⟩
theorem notEq_or : (BinOp.or ≠ .eql ∧ BinOp.or ≠ .neq) := ⟨(by intro h; cases h), (by intro h; cases h)⟩
theorem notEq_shl : (BinOp.shl ≠ .eql ∧ BinOp.shl ≠ .neq) := ⟨(by intro h; cases h), (by intro h; cases h)⟩
theorem notEq_shr : (BinOp.shr ≠ .eql ∧ BinOp.shr ≠ .neq) := ⟨(by intro h; cases h), (by intro h; cases h)⟩
end Go.FL
namespace Go.Proofs.YteomcjpigoaioaaGreatDoor
open Go Go.FL
end Go.Proofs.YteomcjpigoaioaaGreatDoor
namespace Go.Proofs.YteomcjpigoaioaaGreatDoor
open Go.FL
attribute [local irreducible] JC JO JA JB thenQ blockQ retQ AC fill CellsAt QE Ev Mid
theorem w32_in {a : Int} (h1 : 0 ≤ a) (h2 : a < 4294967296) : IntKind.u32.wrap a = a := by rw [IntKind.wrap_u32]; omega
theorem wrapW (a : Int) : IntKind.u32.wrap a = w32 a := IntKind.wrap_u32 a
end Go.Proofs.YteomcjpigoaioaaGreatDoor
namespace Go.FL
open Go Go.RowKit
section
variable {P : Program} {TT : TyTab} {D n : Nat} {Q : APost} {fr : Fr} {L L' K : Hl} {s s' s0 : World} {ops : Array Oper} {rest : List Oper} {d ty : Nat} {op : Op} {pos : String} {af : Array Edge} {v : Value}
theorem JC_drawT {id : Nat} {l : List Oper} (hm : P.follows .mixedOrders = true) (N : Nat) (hN : l.length = N) (j : Nat)
    (h : ∀ s', Le D s s' → JA P TT D n l.toArray Q (L.take j) s' N (Array.replicate N false) fr L s') : JC P TT D n Q (.region id l.toArray true) fr L s := JC_draw hm N hN _ (fun _ hx => List.mem_of_mem_take hx) h
end
end Go.FL
namespace Go.Proofs.YteomcjpigoaioaaGreatDoor
open Go Go.FL
theorem nth_wv {l : List Int} {y : List Value} {j : Nat} {x : Int} (h : l[j]? = some x) : nth (wv l ++ y) j = some (.int .u32 x) := by
  rw [nth_eq, List.getElem?_append_left (by simp [wv]; exact (List.getElem?_eq_some_iff.1 h).1)]; simp [wv, h]
theorem spl_wv {l : List Int} {y : List Value} {j : Nat} (v : Int) (h : j < l.length) : splice (wv l ++ y) j [.int .u32 v] = wv (l.set j v) ++ y := by
  rw [splice_eq _ _ _ (by simp [wv]; omega)]
  have h1 : (wv l).length = l.length := by simp [wv]
  rw [List.take_append_of_le_length (by omega), List.drop_append_of_le_length (by simp; omega)]
  simp only [wv, List.map_set]
  rw [List.set_eq_take_append_cons_drop]
  simp [h]
theorem ble_wv {l : List Int} {y : List Value} {j : Nat} (h : j < l.length) : Nat.ble (j + 1) (wv l ++ y).length = true := by
  rw [Nat.ble_eq]; simp [wv]; omega
theorem w64u {a : Int} (h1 : 0 ≤ a) (h2 : a < 18446744073709551616) : IntKind.u64.wrap a = a := by simp [IntKind.wrap, IntKind.bits, IntKind.signed]; omega
end Go.Proofs.YteomcjpigoaioaaGreatDoor
namespace Go.FL
open Go Go.RowKit
theorem CellsAt.sub {s : World} {b off : Nat} {vs us : List Value} (j : Nat) (h : CellsAt s b off vs) (hc : cut vs j us.length = some us) : CellsAt s b (off + j) us := fun i v hi => by
  obtain ⟨_, h2⟩ := cut_spec hc
  rw [Nat.add_assoc]
  exact h (j + i) v (h2 i v hi)
def front (L : Hl) (i : Nat) : Hl := match L[i]? with
  | some x => x :: L.eraseIdx i
  | none => L
theorem front_perm (L : Hl) (i : Nat) : L.Perm (front L i) := by
  unfold front
  cases h : L[i]? with
  | none => exact List.Perm.refl _
  | some x =>
    induction L generalizing i with
    | nil => simp at h
    | cons y L ih =>
      cases i with
      | zero => simp at h; subst h; exact List.Perm.refl _
      | succ i =>
        simp at h
        simp only [List.eraseIdx_cons_succ]
        exact ((ih i h).cons y).trans (List.Perm.swap x y _)
theorem JC_front {P : Program} {TT : TyTab} {D n : Nat} {Q : APost} {fr : Fr} {L : Hl} {s : World} {c : Code} (i : Nat) (h : JC P TT D n Q c fr (front L i) s) : JC P TT D n Q c fr L s := fun ht a hr ho => by
  rw [fill_perm (front_perm L i) _ ho]
  exact h ht a hr (ho.perm (front_perm L i))
end Go.FL
namespace Go.Proofs.YteomcjpigoaioaaGreatDoor
open Go Go.FL
theorem head_tail {α : Type} {l : List α} {x : α} (h : l[0]? = some x) : ∃ r, l = x :: r := by
  cases l with
  | nil => cases h
  | cons y r => simp at h; exact ⟨r, by rw [h]⟩
structure AcOK (a : Ac) : Prop where
  kind : 0 ≤ a.kind ∧ a.kind ≤ 19
  tgt : 0 ≤ a.tgt ∧ a.tgt ≤ 4
  x : a.x.kind = 1 → 0 ≤ a.x.val ∧ a.x.val ≤ 4
  y : a.y.kind = 1 → 0 ≤ a.y.val ∧ a.y.val ≤ 4
  ux : U32 a.x.val
  uy : U32 a.y.val
theorem nth_wv0 {l : List Int} {y : List Value} {i : Int} (h0 : 0 ≤ i) (h : i < l.length) : nth (wv l ++ y) (0 + i.toNat) = some (.int .u32 (l.getD i.toNat 0)) := by
  rw [Nat.zero_add]; exact nth_wv (by rw [List.getElem?_eq_getElem (by omega)]; simp [List.getD, show i.toNat < l.length by omega])
theorem spl_wv0 {l : List Int} {y : List Value} {i : Int} (v : Int) (h0 : 0 ≤ i) (h : i < l.length) : splice (wv l ++ y) (0 + i.toNat) [.int .u32 v] = wv (l.set i.toNat v) ++ y := by
  rw [Nat.zero_add]; exact spl_wv v (by omega)
theorem ble_wv0 {l : List Int} {y : List Value} {i : Int} (h0 : 0 ≤ i) (h : i < l.length) : Nat.ble (0 + i.toNat + 1) (wv l ++ y).length = true := by
  rw [Nat.zero_add]; exact ble_wv (by omega)
end Go.Proofs.YteomcjpigoaioaaGreatDoor
namespace Go.Proofs.YteomcjpigoaioaaGreatDoor
open Go Go.FL
structure TabG (t : Tab) : Prop where
  cells : 1 ≤ t.cells ∧ t.cells ≤ 65536
  len : t.ins.length ≤ 64
  codes : ∀ (i j : Nat) (x y : Ins), t.ins[i]? = some x → t.ins[j]? = some y → x.code = y.code → i = j
  acts : ∀ (i : Nat) (x : Ins) (a : Ac), t.ins[i]? = some x → a ∈ x.acts → AcOK a ∧ (x.operand = false → a.x.kind ≠ 2 ∧ a.y.kind ≠ 2)
  few : ∀ (i : Nat) (x : Ins), t.ins[i]? = some x → x.acts.length ≤ 8
theorem firstBad_all {f : Nat → Int} {m j : Nat} (h : (firstBad f m j).1 = 0) : ∀ i, j ≤ i → i < j + m → f i = 0 := by
  induction m generalizing j with
  | zero => intro i h1 h2; omega
  | succ m ih =>
    simp only [firstBad] at h
    split at h
    · contradiction
    · rename_i h0
      simp at h0
      intro i h1 h2
      rcases Nat.eq_or_lt_of_le h1 with rfl | h3
      · exact h0
      · exact ih h i h3 (by omega)
theorem firstNZ_all {α : Type} {f : α → Int} {l : List α} (h : firstNZ (l.map f) = 0) : ∀ a ∈ l, f a = 0 := by
  induction l with
  | nil => intro a ha; cases ha
  | cons x l ih =>
    simp only [List.map_cons, firstNZ] at h
    split at h
    · contradiction
    · rename_i h0
      simp at h0
      intro a ha
      rcases List.mem_cons.1 ha with rfl | ha
      · exact h0
      · exact ih h a ha
theorem Inss.u32 {s : World} {A : Option Addr} {n c : Nat} {l : List Ins} (h : Inss s A n c l) {i : Nat} {x : Ins} {a : Ac} (hi : l[i]? = some x) (ha : a ∈ x.acts) : U32 a.x.val ∧ U32 a.y.val := by
  obtain ⟨b, off, cs, h1, h2, h3, A', n', c', rfl, h5, h6⟩ := h.2.2.2 i x hi
  obtain ⟨j, hj⟩ := List.getElem?_of_mem ha
  obtain ⟨_, _, _, _, _, _, _, h7⟩ := h5.2.2.2 j a hj
  exact h7
theorem term_ok {x : Tm} {u o : Bool} (h : termB x u o = true) : (x.kind = 1 → x.val ≤ 4) ∧ (o = false → x.kind ≠ 2) := by
  unfold termB at h
  cases u <;> cases o <;> simp at h ⊢ <;> omega
theorem tabG {t : Tab} {s : World} {A : Option Addr} {n c : Nat} (hX : Inss s A n c t.ins) (h : (tabFault t).1 = 0) : TabG t := by
  unfold tabFault at h
  split at h
  · cases h
  rename_i h1
  split at h
  · cases h
  rename_i h2
  have hr := firstBad_all h
  have hrow : ∀ (i : Nat) (x : Ins), t.ins[i]? = some x → insCode x = 0 ∧ (t.ins.take i).any (sameKey x) = false := fun i x hi => by
    have hl : i < t.ins.length := (List.getElem?_eq_some_iff.1 hi).1
    have := hr i (Nat.zero_le _) (by omega)
    simp only [rowCode, hi] at this
    split at this
    · contradiction
    · rename_i h0
      simp at h0
      refine ⟨h0, ?_⟩
      split at this
      · cases this
      · rename_i h3; simpa using h3
  refine ⟨by omega, by omega, ?_, ?_, ?_⟩
  · have key : ∀ (i j : Nat) (x y : Ins), i < j → t.ins[i]? = some x → t.ins[j]? = some y → x.code ≠ y.code := fun i j x y hij hi hj he => by
      have := (hrow j y hj).2
      rw [List.any_eq_false] at this
      have hx : x ∈ t.ins.take j := List.mem_of_getElem? (i := i) (by rw [List.getElem?_take, if_pos hij]; exact hi)
      have := this x hx
      simp [sameKey, he] at this
    intro i j x y hi hj he
    rcases Nat.lt_trichotomy i j with h | h | h
    · exact absurd he (key i j x y h hi hj)
    · exact h
    · exact absurd he.symm (key j i y x h hj hi)
  · intro i x a hi ha
    obtain ⟨hu1, hu2⟩ := Inss.u32 hX hi ha
    have hc := (hrow i x hi).1
    unfold insCode at hc
    split at hc
    · cases hc
    split at hc
    · cases hc
    have hac := firstNZ_all hc a ha
    unfold actCode at hac
    split at hac
    · cases hac
    split at hac
    · cases hac
    split at hac
    · cases hac
    rename_i k1 k2 k3
    simp only [Bool.or_eq_true, not_or, Bool.not_eq_true', Bool.not_eq_false] at k3
    have hx := term_ok k3.1.2
    have hy := term_ok k3.2
    exact ⟨⟨by omega, by omega, fun e => ⟨hu1.1, hx.1 e⟩, fun e => ⟨hu2.1, hy.1 e⟩, hu1, hu2⟩, fun e => ⟨hx.2 e, hy.2 e⟩⟩
  · intro i x hi
    have hc := (hrow i x hi).1
    unfold insCode at hc
    split at hc
    · cases hc
    split at hc
    · cases hc
    omega
end Go.Proofs.YteomcjpigoaioaaGreatDoor
namespace Go.FL
open Go Go.RowKit
section
variable {P : Program} {TT : TyTab} {D n : Nat} {Q : APost} {fr : Fr} {L : Hl} {s : World}
theorem JC_loopX {γ : Type} {c : Code} (X : Hl) (S : γ → Fr) (H : γ → Hl) (I : γ → World → Prop) (μ : γ → Nat) (mono : ∀ g s s', I g s → Le D s s' → I g s') (g0 : γ)
    (hS : Keeps fr (S g0)) (hL : L = X ++ H g0) (hI : I g0 s)
    (round : ∀ g s, I g s → JC P TT D n (thenQ (fun fr' L' s' => ∃ g' A, Keeps fr' (S g') ∧ L' = A ++ (X ++ H g') ∧ I g' s' ∧ μ g' < μ g) Q) c (S g) (X ++ H g) s) :
    JC P TT D n Q (.loop c) fr L s := JC_loop S (fun g => X ++ H g) I μ mono g0 hS hL hI round
inductive Suf (fr : Fr) : Fr → Prop
  | refl : Suf fr fr
  | push {d : Nat} {v : Value} {fr' : Fr} (hd : (flook fr d).isNone = true) (h : Suf fr fr') : Suf fr ((d, v) :: fr')
theorem Suf.keeps {fr fr' : Fr} (h : Suf fr fr') : Keeps fr' fr := by
  induction h with
  | refl => exact fun _ _ h => h
  | @push d v fr' hd _ ih =>
    intro t u hu
    rw [flook_cons]
    by_cases he : d = t
    · subst he; rw [hu] at hd; cases hd
    · rw [if_neg he]; exact ih t u hu
def MidB (D : Nat) (s : World) (fr : Fr) (L : Hl) (t : Nat) (p : Prop) [Decidable p] : Fr → Hl → World → Prop := fun fr' L' s' => Le D s s' ∧ L' = L ∧ Keeps fr' ((t, .bool (decide p)) :: fr)
theorem MidB.mk {t : Nat} {p : Prop} [Decidable p] {fr' : Fr} {s' : World} {b : Bool} (hl : Le D s s') (hS : Suf fr fr') (ht : flook fr' t = some (.bool b)) (hb : b = decide p) : MidB D s fr L t p fr' L s' := by
  subst hb; exact ⟨hl, rfl, Keeps.cons ht hS.keeps⟩
theorem JC_cutB {x y : Code} (t : Nat) (p : Prop) [Decidable p] (h1 : JC P TT D n (thenQ (MidB D s fr L t p) Q) x fr L s)
    (h2 : ∀ s', Le D s s' → JC P TT D n Q y ((t, .bool (decide p)) :: fr) L s') : JC P TT D n Q (.seq x y) fr L s := fun ht a hr ho =>
  wp_seq (wp_mono (h1 ht a hr ho) fun e a w ⟨fr', L', s', k1, k2, k3, k4⟩ => by
    cases e with
    | normal =>
      subst k3
      obtain ⟨j1, j2, j3⟩ := k4
      subst j2
      exact h2 s' j1 ht a (k1.sub j3) k2
    | _ => exact ⟨fr', L', s', k1, k2, k3, k4⟩)
def MidN {γ : Type} (D : Nat) (s : World) (fr : Fr) (L : Hl) (new : γ → Fr) (B : γ → Hl) (I : γ → World → Prop) : Fr → Hl → World → Prop := fun fr' L' s' => ∃ g A, Le D s s' ∧ L'.Perm (A ++ (B g ++ L)) ∧ I g s' ∧ Keeps fr' (new g ++ fr)
theorem MidN.mk {γ : Type} {new : γ → Fr} {B : γ → Hl} {I : γ → World → Prop} {fr' : Fr} {L' : Hl} {s' : World} (g : γ) (A : Hl) (hl : Le D s s') (hK : Keeps fr' (new g ++ fr)) (hp : L'.Perm (A ++ (B g ++ L))) (hI : I g s') : MidN D s fr L new B I fr' L' s' := ⟨g, A, hl, hp, hI, hK⟩
theorem JC_cutN {γ : Type} {x y : Code} (new : γ → Fr) (B : γ → Hl) (I : γ → World → Prop) (mono : ∀ g s s', I g s → Le D s s' → I g s') (h1 : JC P TT D n (thenQ (MidN D s fr L new B I) Q) x fr L s)
    (h2 : ∀ g s', Le D s s' → I g s' → JC P TT D n Q y (new g ++ fr) (B g ++ L) s') : JC P TT D n Q (.seq x y) fr L s := fun ht a hr ho =>
  wp_seq (wp_mono (h1 ht a hr ho) fun e a w ⟨fr', L', s', k1, k2, k3, k4⟩ => by
    cases e with
    | normal =>
      subst k3
      obtain ⟨g, A, j0, j2, j3, j1⟩ := k4
      rw [fill_perm j2 _ k2]
      obtain ⟨e, d1, d2⟩ := drop_own (k2.perm j2)
      rw [e]
      exact h2 g _ (j0.trans d2) (mono _ _ _ j3 d2) ht a (k1.sub j1) d1
    | _ => exact ⟨fr', L', s', k1, k2, k3, k4⟩)
def Pub (M : Hl) (s : World) : Prop := ∀ b zs t, (b, cb zs t) ∈ M → CellsAt s b 0 zs
theorem Pub.nil (s : World) : Pub [] s := fun _ _ _ h => by cases h
theorem Pub.tail {x : Nat × Obj} {M : Hl} {s : World} (h : Pub (x :: M) s) : Pub M s := fun b zs t hm => h b zs t (List.mem_cons_of_mem _ hm)
theorem Pub.left {A B : Hl} {s : World} (h : Pub (A ++ B) s) : Pub A s := fun b zs t hm => h b zs t (List.mem_append_left _ hm)
theorem Pub.right {A B : Hl} {s : World} (h : Pub (A ++ B) s) : Pub B s := fun b zs t hm => h b zs t (List.mem_append_right _ hm)
theorem Pub.le {D : Nat} {A : Hl} {s s' : World} (h : Pub A s) (hl : Le D s s') : Pub A s' := fun b zs t hm => (h b zs t hm).le hl
theorem AC.pubW {f : FuncId} {args : List Value} {R : Value → World → Prop} (h : AC P D f args L s (fun v L' s' => ∃ M', L' = M' ++ L ∧ ∀ s2, Le D s' s2 → Pub M' s2 → R v s2)) :
    AC P D f args L s (fun v L' s' => L = L' ∧ R v s') := by
  refine ⟨h.1, fun ho => (h.2 ho).mono ?_⟩
  rintro e w' ⟨v, L', s', h1, rfl, h3, h4, M', rfl, h6⟩
  obtain ⟨d1, d2, d3⟩ := drop_own h3
  refine ⟨v, L, fill M' s', h1, d1, d2, h4.trans d3, rfl, h6 _ d3 fun b zs t hm j u hj => ?_⟩
  rw [mem_cell h3.left hm, Nat.zero_add]; exact hj
end
end Go.FL
namespace Go.Proofs.YteomcjpigoaioaaGreatDoor
open Go Go.FL
def zeroM : Mst := ⟨[], 0, 0, 0, 0, 0, [], [], 0, 0⟩
def StW (s : World) (m : Mst) (v : Value) : Prop := ∃ A nA cA B nB cB O nO cO, v = .agg #[.slice A nA cA, .int .u32 m.r0, .int .u32 m.r1, .int .u32 m.r2, .int .u32 m.r3, .int .u32 m.r4, .slice B nB cB, .slice O nO cO, .int .i64 m.stop, .int .u32 m.code]
  ∧ Wds s A nA cA m.cells ∧ Bts s B nB cB m.input ∧ Bts s O nO cO m.output
theorem StW.le {D : Nat} {s s' : World} {m : Mst} {v : Value} (h : StW s m v) (hl : Le D s s') : StW s' m v := by
  obtain ⟨A, nA, cA, B, nB, cB, O, nO, cO, h1, h2, h3, h4⟩ := h
  exact ⟨A, nA, cA, B, nB, cB, O, nO, cO, h1, h2.le hl, h3.le hl, h4.le hl⟩
theorem StW.zero (s : World) : StW s zeroM (.agg #[.slice none 0 0, .int .u32 0, .int .u32 0, .int .u32 0, .int .u32 0, .int .u32 0, .slice none 0 0, .slice none 0 0, .int .i64 0, .int .u32 0]) :=
  ⟨none, 0, 0, none, 0, 0, none, 0, 0, rfl, Wds.nil _ _ _ (by omega), Bts.nil _ _ _ (by omega), Bts.nil _ _ _ (by omega)⟩
end Go.Proofs.YteomcjpigoaioaaGreatDoor
namespace Go.Proofs.YteomcjpigoaioaaGreatDoor
open Go.FL
attribute [local irreducible] JC JO JA JB thenQ blockQ retQ AC fill CellsAt QE Ev Mid
theorem wds_pub {s : World} {bc cc : Nat} {l : List Int} {yc : List Value} (hp : CellsAt s bc 0 (wv l ++ yc)) (hu : ∀ x ∈ l, U32 x) (h1 : l.length + yc.length = cc) (h2 : cc ≤ 9223372036854775807) : Wds s (some ⟨bc, 0, none⟩) l.length cc l :=
  Own.wds (e := 0) (A := [(bc, cb (wv l ++ yc) 0)]) (.blk bc cc l.length (wv l) yc (by simp [wv]) (by rw [wv_len]; omega) (by omega) h2) hu (fun b zs t hm => by
    simp only [List.mem_singleton, Prod.mk.injEq, cb, Obj.cells.injEq] at hm
    obtain ⟨rfl, h, rfl, _⟩ := hm
    have e : zs = wv l ++ yc := by simpa using h
    rw [e]; exact hp)
theorem U32_zero : U32 0 := ⟨by decide, by decide⟩
end Go.Proofs.YteomcjpigoaioaaGreatDoor
namespace Go.Proofs.YteomcjpigoaioaaGreatDoor
open Go.FL
attribute [local irreducible] JC JO JA JB thenQ blockQ retQ AC fill CellsAt QE Ev Mid
def StO (m : Mst) (v : Value) (M : Hl) (s : World) : Prop := ∃ bc cc yc O Ao co Ai ni ci, v = .agg #[.slice (some ⟨bc, 0, none⟩) m.cells.length cc, .int .u32 m.r0, .int .u32 m.r1, .int .u32 m.r2, .int .u32 m.r3, .int .u32 m.r4, .slice Ai ni ci, .slice Ao m.output.length co, .int .i64 m.stop, .int .u32 m.code]
  ∧ M = (bc, cb (wv m.cells ++ yc) 52) :: O ∧ Own 5 1 O (.slice Ao m.output.length co) m.output.length (bv m.output) ∧ Bts s Ai ni ci m.input ∧ m.cells.length + yc.length = cc ∧ cc ≤ 9223372036854775807
end Go.Proofs.YteomcjpigoaioaaGreatDoor
namespace Go.Proofs.YteomcjpigoaioaaGreatDoor
open Go.FL
attribute [local irreducible] JC JO JA JB thenQ blockQ retQ AC fill CellsAt QE Ev Mid
theorem StO.le {D : Nat} {m : Mst} {v : Value} {M : Hl} {s s' : World} (h : StO m v M s) (hl : Le D s s') : StO m v M s' := by
  obtain ⟨bc, cc, yc, O, Ao, co, Ai, ni, ci, h1, h2, h3, h4, h5⟩ := h
  exact ⟨bc, cc, yc, O, Ao, co, Ai, ni, ci, h1, h2, h3, h4.le hl, h5⟩
end Go.Proofs.YteomcjpigoaioaaGreatDoor
namespace Go.Proofs.YteomcjpigoaioaaGreatDoor
open Go.FL
attribute [local irreducible] JC JO JA JB thenQ blockQ retQ AC fill CellsAt QE Ev Mid
def OutW (s : World) (o : List UInt8 × Int × Int × Int) (v : Value) : Prop := ∃ A n c, v = .agg #[.slice A n c, .int .i64 o.2.1, .int .u32 o.2.2.1, .int .i64 o.2.2.2] ∧ Bts s A n c o.1
theorem OutW.zero (s : World) : OutW s ([], 0, 0, 0) (.agg #[.slice none 0 0, .int .i64 0, .int .u32 0, .int .i64 0]) := ⟨none, 0, 0, rfl, Bts.nil _ _ _ (by omega)⟩
theorem OutW.le {D : Nat} {s s' : World} {o : List UInt8 × Int × Int × Int} {v : Value} (h : OutW s o v) (hl : Le D s s') : OutW s' o v := by
  obtain ⟨A, n, c, h1, h2⟩ := h
  exact ⟨A, n, c, h1, h2.le hl⟩
end Go.Proofs.YteomcjpigoaioaaGreatDoor
namespace Go.Proofs.YteomcjpigoaioaaGreatDoor
open Go Go.FL
inductive All2 {α β : Type} (R : α → β → Prop) : List α → List β → Prop
  | nil : All2 R [] []
  | cons {a : α} {b : β} {l : List α} {m : List β} (h : R a b) (k : All2 R l m) : All2 R (a :: l) (b :: m)
theorem sl_lit {α : Type} {sz : Nat} {R : World → α → List Value → Prop} {s : World} {b : Nat} {l : List α} {css : List (List Value)} (h : All2 (fun x cs => cs.length = sz ∧ R s x cs) l css) :
    ∀ off, CellsAt s b off css.flatten → ∀ i x, l[i]? = some x → ∃ cs, CellsAt s b (off + i * sz) cs ∧ cs.length = sz ∧ R s x cs := by
  induction h with
  | nil => intro off _ i x hi; cases hi
  | @cons a c l m h k ih =>
    intro off hc i x hi
    have h1 : CellsAt s b off c := fun j v hj => hc j v (by rw [List.flatten_cons, List.getElem?_append_left (List.getElem?_eq_some_iff.1 hj).1]; exact hj)
    have h2 : CellsAt s b (off + sz) m.flatten := fun j v hj => by
      have := hc (sz + j) v (by rw [List.flatten_cons, List.getElem?_append_right (by omega), h.1]; simpa using hj)
      rwa [← Nat.add_assoc] at this
    cases i with
    | zero => simp at hi; subst hi; exact ⟨c, by simpa using h1, h.1, h.2⟩
    | succ i =>
      obtain ⟨cs, k1, k2⟩ := ih (off + sz) h2 i x (by simpa using hi)
      exact ⟨cs, by rw [Nat.succ_mul]; rwa [show off + sz + i * sz = off + (i * sz + sz) by omega] at k1, k2⟩
theorem Sl.lit {α : Type} {sz : Nat} {R : World → α → List Value → Prop} {s : World} {b : Nat} {l : List α} (css : List (List Value)) {zs : List Value} (hc : CellsAt s b 0 zs) (hz : css.flatten = zs) (h : All2 (fun x cs => cs.length = sz ∧ R s x cs) l css) (n : Nat) (hn : n = l.length) (hm : n ≤ 9223372036854775807) : Sl sz R s (some ⟨b, 0, none⟩) n n l :=
  ⟨hn, Nat.le_refl _, hm, fun i x hi => by
    obtain ⟨cs, h1, h2⟩ := sl_lit h 0 (hz ▸ hc) i x hi
    exact ⟨b, 0, cs, rfl, h1, h2⟩⟩
theorem bts_pub {s : World} {b cc : Nat} {l : List UInt8} {yc : List Value} (hp : CellsAt s b 0 (bv l ++ yc)) (h1 : l.length + yc.length = cc) (h2 : cc ≤ 9223372036854775807) : Bts s (some ⟨b, 0, none⟩) l.length cc l :=
  Own.bts (e := 0) (A := [(b, cb (bv l ++ yc) 0)]) (.blk b cc l.length (bv l) yc (by simp [bv]) (by rw [bv_len]; omega) (by omega) h2) (fun b zs t hm => by
    simp only [List.mem_singleton, Prod.mk.injEq, cb, Obj.cells.injEq] at hm
    obtain ⟨rfl, h, rfl, _⟩ := hm
    have e : zs = bv l ++ yc := by simpa using h
    rw [e]; exact hp)
end Go.Proofs.YteomcjpigoaioaaGreatDoor
namespace Go.FL
open Go Go.RowKit
theorem JC_pubX {P : Program} {TT : TyTab} {D n : Nat} {Q : APost} {fr : Fr} {s : World} {c : Code} (X A Y : Hl) (h : ∀ s', Le D s s' → Pub A s' → JC P TT D n Q c fr (X ++ Y) s') : JC P TT D n Q c fr (X ++ (A ++ Y)) s := fun ht a hr ho => by
  have hp : (X ++ (A ++ Y)).Perm (A ++ (X ++ Y)) := by
    rw [← List.append_assoc, ← List.append_assoc]
    exact (List.perm_append_comm).append_right Y
  rw [fill_perm hp _ ho]
  have ho2 := ho.perm hp
  obtain ⟨e, d1, d2⟩ := drop_own ho2
  rw [e]
  refine h _ d2 (fun b zs t hm j u hj => ?_) ht a hr d1
  rw [mem_cell ho2.left hm, Nat.zero_add]; exact hj
end Go.FL
namespace Go.Proofs.YteomcjpigoaioaaGreatDoor
open Go Go.FL
theorem All2.len {α β : Type} {R : α → β → Prop} {l : List α} {m : List β} (h : All2 R l m) : l.length = m.length := by
  induction h with
  | nil => rfl
  | cons _ _ ih => simp [ih]
theorem All2.mono {α β : Type} {R R' : α → β → Prop} {l : List α} {m : List β} (h : All2 R l m) (hr : ∀ a b, R a b → R' a b) : All2 R' l m := by
  induction h with
  | nil => exact .nil
  | cons h _ ih => exact .cons (hr _ _ h) ih
theorem All2.snoc {α β : Type} {R : α → β → Prop} {l : List α} {m : List β} {a : α} {b : β} (h : All2 R l m) (k : R a b) : All2 R (l ++ [a]) (m ++ [b]) := by
  induction h with
  | nil => exact .cons k .nil
  | cons h _ ih => exact .cons h ih
theorem Own.rows {α : Type} {e sz : Nat} {A : Hl} {Ad : Option Addr} {n c : Nat} {css : List (List Value)} {l : List α} {R : World → α → List Value → Prop} {s : World} (h : Own e sz A (.slice Ad n c) n css.flatten) (hp : Pub A s) (ha : All2 (fun x cs => cs.length = sz ∧ R s x cs) l css) (hn : n = l.length) : Sl sz R s Ad n c l := by
  generalize hv : Value.slice Ad n c = v at h
  generalize hx : css.flatten = xs at h
  cases h with
  | nil =>
    injection hv with e1 e2 e3
    subst e1; subst e3
    have : l = [] := List.eq_nil_of_length_eq_zero hn.symm
    subst this
    exact ⟨rfl, Nat.le_refl _, by omega, fun i x h => by cases h⟩
  | blk b cap n xs ys h1 h2 h3 h4 =>
    injection hv with e1 e2 e3
    subst e1; subst e3; subst hx
    have hc : CellsAt s b 0 css.flatten := fun j v hj => hp b _ e (List.mem_cons_self ..) j v (by rw [List.getElem?_append_left (List.getElem?_eq_some_iff.1 hj).1]; exact hj)
    exact ⟨hn, h3, h4, fun i x hi => by
      obtain ⟨cs, k1, k2⟩ := sl_lit ha 0 hc i x hi
      exact ⟨b, 0, cs, rfl, k1, k2⟩⟩
def Strs (s : World) (A : Option Addr) (n c : Nat) (l : List (List UInt8)) : Prop := Sl 1 (fun _ x cs => cs = [St x] ∧ x.length ≤ 9223372036854775807) s A n c l
theorem Strs.le {D : Nat} {s s' : World} {A : Option Addr} {n c : Nat} {l : List (List UInt8)} (h : Strs s A n c l) (hl : Le D s s') : Strs s' A n c l := Sl.le (fun _ _ h => h) h hl
theorem Strs.at_ {s : World} {A : Option Addr} {n c k : Nat} {l : List (List UInt8)} (h : Strs s A n c l) (hk : k < n) : ∃ b off x, A = some ⟨b, off, none⟩ ∧ l[k]? = some x ∧ CellsAt s b (off + k) [St x] ∧ x.length ≤ 9223372036854775807 := by
  have hl : k < l.length := by rw [← h.1]; exact hk
  obtain ⟨b, off, cs, h1, h2, _, rfl, h4⟩ := h.2.2.2 k l[k] (List.getElem?_eq_getElem hl)
  exact ⟨b, off, l[k], h1, List.getElem?_eq_getElem hl, by simpa using h2, h4⟩
end Go.Proofs.YteomcjpigoaioaaGreatDoor
namespace Go.Proofs.YteomcjpigoaioaaGreatDoor
open Go Go.FL
def findB (l : List UInt8) (c : Int) : Int := idxOf (fun x => decide ((x.toNat : Int) = c)) l 0
def splitF (c : Int) : List UInt8 → List UInt8 → List (List UInt8)
  | cur, [] => [cur]
  | cur, x :: r => if (x.toNat : Int) = c then cur :: splitF c [] r else splitF c (cur ++ [x]) r
def splitB (c : Int) (l : List UInt8) : List (List UInt8) := splitF c [] l
theorem splitF_len (c : Int) (cur l : List UInt8) : (splitF c cur l).length ≤ l.length + 1 := by
  induction l generalizing cur with
  | nil => simp [splitF]
  | cons x r ih =>
    simp only [splitF]
    split
    · simp only [List.length_cons]; have := ih []; omega
    · simp only [List.length_cons]; have := ih (cur ++ [x]); omega
theorem splitF_short (c : Int) (cur l : List UInt8) : ∀ p ∈ splitF c cur l, p.length ≤ cur.length + l.length := by
  induction l generalizing cur with
  | nil => intro p hp; simp [splitF] at hp; subst hp; simp
  | cons x r ih =>
    intro p hp
    simp only [splitF] at hp
    split at hp
    · rcases List.mem_cons.1 hp with rfl | hp
      · simp only [List.length_cons]; omega
      · have := ih [] p hp; simp only [List.length_nil, List.length_cons] at this ⊢; omega
    · have := ih (cur ++ [x]) p hp; simp only [List.length_append, List.length_cons, List.length_nil] at this ⊢; omega
theorem split_hit {l : List UInt8} {c : Int} {i f : Nat} {x : UInt8} (h : l[i]? = some x) (hx : (x.toNat : Int) = c) : splitF c ((l.drop f).take (i - f)) (l.drop i) = ((l.drop f).take (i - f)) :: splitF c ((l.drop (i + 1)).take ((i + 1) - (i + 1))) (l.drop (i + 1)) := by
  obtain ⟨hi, rfl⟩ := List.getElem?_eq_some_iff.1 h
  rw [List.drop_eq_getElem_cons hi]
  simp only [splitF, hx, if_true, Nat.sub_self, List.take_zero]
theorem split_miss {l : List UInt8} {c : Int} {i f : Nat} {x : UInt8} (h : l[i]? = some x) (hx : ¬ (x.toNat : Int) = c) (hf : f ≤ i) : splitF c ((l.drop f).take (i - f)) (l.drop i) = splitF c ((l.drop f).take ((i + 1) - f)) (l.drop (i + 1)) := by
  obtain ⟨hi, rfl⟩ := List.getElem?_eq_some_iff.1 h
  rw [List.drop_eq_getElem_cons hi]
  simp only [splitF, hx, if_false]
  congr 1
  rw [show i + 1 - f = (i - f) + 1 by omega, List.take_add_one, List.getElem?_drop, show f + (i - f) = i by omega, List.getElem?_eq_getElem hi]; rfl
theorem split_end {l : List UInt8} {c : Int} {f : Nat} : splitF c ((l.drop f).take (l.length - f)) (l.drop l.length) = [l.drop f] := by
  rw [List.drop_length, List.take_of_length_le (by simp)]; rfl
def sb (l : List (List UInt8)) : List Value := l.map fun x => St x
theorem sb_snoc (l : List (List UInt8)) (x : List UInt8) : sb (l ++ [x]) = sb l ++ [St x] := by simp [sb]
theorem Own.strs {e : Nat} {A : Hl} {Ad : Option Addr} {n c : Nat} {l : List (List UInt8)} {s : World} (h : Own e 1 A (.slice Ad n c) n (sb l)) (hu : ∀ x ∈ l, x.length ≤ 9223372036854775807) (hp : Pub A s) (hn : n = l.length) : Strs s Ad n c l := by
  have he : sb l = (l.map fun x => [St x]).flatten := by
    clear h hu hn
    induction l with
    | nil => rfl
    | cons x r ih => simp [sb] at ih ⊢; exact ih
  rw [he] at h
  refine Own.rows h hp ?_ hn
  clear h he hn
  induction l with
  | nil => exact .nil
  | cons x r ih => exact .cons ⟨rfl, rfl, hu x (List.mem_cons_self ..)⟩ (ih fun y hy => hu y (List.mem_cons_of_mem _ hy))
theorem w32_u (x : Int) : U32 (w32 x) := ⟨by unfold w32; omega, by unfold w32; omega⟩
end Go.Proofs.YteomcjpigoaioaaGreatDoor
namespace Go.Proofs.YteomcjpigoaioaaGreatDoor
open Go.FL
attribute [local irreducible] JC JO JA JB thenQ blockQ retQ AC fill CellsAt QE Ev Mid
theorem flat_snoc2 (css : List (List Value)) (cs : List Value) : (css ++ [cs]).flatten = css.flatten ++ cs := by simp
set_option maxHeartbeats 1000000 in
set_option maxRecDepth 100000 in
theorem find7_ac (D : Nat) (L : Hl) (s : World) (l : List UInt8) (c : Int) (hl : l.length ≤ 9223372036854775807) : AC Tryz.prog D 62 [St l, .int .u8 c] L s fun v L' _ => v = .int .i64 (findB l c) ∧ L = L' := by
 refine AC_enter (TT := TT) (fn := Tryz.f62) TT_ok Tryz.func62 (by kernel_rfl) rfl Tryz.ntmps62 rfl (rs := [.tmp 4]) rfl [(0, _), (1, _)] rfl ?_
 refine JC_seq ?_
 refine JC_region ?_
 refine JO_q (QE_as rfl) rfl ?_
 refine JO_nil ?_
 refine thenQ_n ?_
 refine JC_seq ?_
 refine JC_seq ?_
 refine JC_region ?_
 refine JO_q (QE_as rfl) rfl ?_
 refine JO_nil ?_
 refine thenQ_n ?_
 refine JC_block ?_
 refine JC_loop (γ := Nat) (fun k => [(0, _), (1, _), (4, _), (5, .int .i64 (k : Int))]) (fun _ => _) (fun k tw => Le D s tw ∧ (k ≤ l.length ∧ ∀ i x, i < k → l[i]? = some x → decide ((x.toNat : Int) = c) = false)) (fun k => l.length - k) (fun _ _ _ h hl => ⟨h.1.trans hl, h.2⟩) 0 (Keeps.cons rfl (Keeps.cons rfl (Keeps.cons rfl (Keeps.cons rfl (Keeps.nil _))))) rfl ⟨Le.refl _, ⟨Nat.zero_le _, fun i c hi => by omega⟩⟩ ?_
 intro k s1 I1
 have hk0 := I1.2.1
 have hI := I1.2.2
 refine JC_seq ?_
 refine JC_seq ?_
 refine JC_region ?_
 refine JO_q (QE_mv rfl) rfl ?_
 refine JO_q (QE_mv rfl) rfl ?_
 refine JO_q (QE_lenT rfl rfl rfl) rfl ?_
 refine JO_q (QE_lt rfl rfl) rfl ?_
 refine JO_nil ?_
 refine thenQ_n ?_
 refine JC_ifD rfl (fun c2 => ?_) (fun c2 => ?_)
 ·
  have hk : k < l.length := by omega
  obtain ⟨ch, hch⟩ : ∃ ch, l[k]? = some ch := ⟨_, List.getElem?_eq_getElem hk⟩
  refine JC_skip ?_
  refine thenQ_n ?_
  refine JC_seq ?_
  refine JC_block ?_
  refine JC_seq ?_
  refine JC_region ?_
  refine JO_q (QE_mv rfl) rfl ?_
  refine JO_q (QE_mv rfl) rfl ?_
  refine JO_q (QE_ix rfl rfl rfl rfl hch) rfl ?_
  refine JO_q (QE_mv rfl) rfl ?_
  refine JO_q (QE_eq rfl rfl) rfl ?_
  refine JO_nil ?_
  refine thenQ_n ?_
  refine JC_ifD rfl (fun c3 => ?_) (fun c3 => ?_)
  ·
   have hne := c3
   refine JC_seq ?_
   refine JC_region ?_
   refine JO_q (QE_mv rfl) rfl ?_
   refine JO_q (QE_as rfl) rfl ?_
   refine JO_nil ?_
   refine thenQ_n ?_
   refine JC_ret ?_
   refine blockQ_r ?_
   refine thenQ_r ?_
   refine thenQ_r ?_
   refine blockQ_r ?_
   refine thenQ_r ?_
   refine retQ_mk [] L (.inr rfl) (.tmp rfl (.nil)) rfl I1.1 (fun sR hS2 => ?_)
   refine ⟨?_, rfl⟩
   simp [resV, findB, idxOf_hit hI hch (decide_eq_true hne)]; done
  ·
   have hne := c3
   refine JC_skip ?_
   refine blockQ_n ?_
   refine thenQ_n ?_
   refine JC_region ?_
   refine JO_q (QE_mv rfl) rfl ?_
   refine JO_q (QE_add' rfl rfl (w64 (by omega) (by omega))) rfl ?_
   refine JO_q (QE_as rfl) rfl ?_
   refine JO_nil ?_
   refine thenQ_n ⟨(k + 1), [], (Keeps.cons rfl (Keeps.cons rfl (Keeps.cons rfl (Keeps.cons rfl (Keeps.nil _))))), rfl, ⟨I1.1, ⟨by omega, below_succ hI hch (decide_eq_false hne)⟩⟩, (by omega)⟩
 ·
  refine JC_exit ?_
  refine thenQ_x ?_
  refine thenQ_x ?_
  refine blockQ_x ?_
  refine thenQ_n ?_
  refine JC_seq ?_
  refine JC_region ?_
  refine JO_q (QE_as rfl) rfl ?_
  refine JO_nil ?_
  refine thenQ_n ?_
  refine JC_ret ?_
  refine retQ_mk [] L (.inr rfl) (.tmp rfl (.nil)) rfl I1.1 (fun sR hS2 => ?_)
  refine ⟨?_, rfl⟩
  simp [resV, findB, idxOf_none (fun i a hi h => hI i a (by omega) h)]; done
set_option maxHeartbeats 2000000 in
set_option maxRecDepth 100000 in
theorem splitO_ac (D : Nat) (L : Hl) (s : World) (l : List UInt8) (c : Int) (hl : l.length ≤ 1000000000) : AC Tryz.prog D 25 [St l, .int .u8 c] L s fun v L' s' => ∃ M', L' = M' ++ L ∧ ∀ s2, Le D s' s2 → Pub M' s2 → ∃ A n c', v = .slice A n c' ∧ Strs s2 A n c' (splitB c l) := by
 refine AC_enter (TT := TT) (fn := Tryz.f25) TT_ok Tryz.func25 (by kernel_rfl) rfl Tryz.ntmps25 rfl (rs := [.tmp 4]) rfl [(0, _), (1, _)] rfl ?_
 refine JC_seq ?_
 refine JC_region ?_
 refine JO_q (QE_as rfl) rfl ?_
 refine JO_nil ?_
 refine thenQ_n ?_
 refine JC_seq ?_
 refine JC_region ?_
 refine JO_q (QE_as rfl) rfl ?_
 refine JO_nil ?_
 refine thenQ_n ?_
 refine JC_seq ?_
 refine JC_region ?_
 refine JO_q (QE_as rfl) rfl ?_
 refine JO_nil ?_
 refine thenQ_n ?_
 refine JC_seq ?_
 refine JC_seq ?_
 refine JC_region ?_
 refine JO_q (QE_as rfl) rfl ?_
 refine JO_nil ?_
 refine thenQ_n ?_
 refine JC_block ?_
 refine JC_loop (γ := Nat × Nat × Value × Hl × List (List UInt8)) (fun g => [(0, _), (1, _), (4, _), (5, g.2.2.1), (6, .int .i64 (g.2.1 : Int)), (7, .int .i64 (g.1 : Int))]) (fun g => g.2.2.2.1 ++ L) (fun g tw => Le D s tw ∧ (g.1 ≤ l.length ∧ g.2.1 ≤ g.1 ∧ Own 9 1 g.2.2.2.1 g.2.2.1 g.2.2.2.2.length (sb g.2.2.2.2) ∧ g.2.2.2.2.length ≤ g.1 ∧ splitB c l = g.2.2.2.2 ++ splitF c ((l.drop g.2.1).take (g.1 - g.2.1)) (l.drop g.1))) (fun g => l.length - g.1) (fun _ _ _ h hl => ⟨h.1.trans hl, h.2⟩) (0, 0, .slice none 0 0, [], []) (Keeps.cons rfl (Keeps.cons rfl (Keeps.cons rfl (Keeps.cons rfl (Keeps.cons rfl (Keeps.cons rfl (Keeps.nil _))))))) rfl ⟨Le.refl _, ⟨Nat.zero_le _, Nat.le_refl _, Own.nil, Nat.le_refl _, by simp [splitB]⟩⟩ ?_
 intro g s1 I1
 obtain ⟨i, f, vo, Mo, out⟩ := g
 obtain ⟨hi0, hf, hO, hol, hS⟩ := I1.2
 simp only at hi0 hf hO hol hS
 dsimp only
 refine JC_seq ?_
 refine JC_seq ?_
 refine JC_region ?_
 refine JO_q (QE_mv rfl) rfl ?_
 refine JO_q (QE_mv rfl) rfl ?_
 refine JO_q (QE_lenT rfl rfl rfl) rfl ?_
 refine JO_q (QE_lt rfl rfl) rfl ?_
 refine JO_nil ?_
 refine thenQ_n ?_
 refine JC_ifD rfl (fun c2 => ?_) (fun c2 => ?_)
 ·
  have hk : i < l.length := by omega
  obtain ⟨ch, hch⟩ : ∃ ch, l[i]? = some ch := ⟨_, List.getElem?_eq_getElem hk⟩
  refine JC_skip ?_
  refine thenQ_n ?_
  refine JC_seq ?_
  refine JC_block ?_
  refine JC_seq ?_
  refine JC_region ?_
  refine JO_q (QE_mv rfl) rfl ?_
  refine JO_q (QE_mv rfl) rfl ?_
  refine JO_q (QE_ix rfl rfl rfl rfl hch) rfl ?_
  refine JO_q (QE_mv rfl) rfl ?_
  refine JO_q (QE_eq rfl rfl) rfl ?_
  refine JO_nil ?_
  refine thenQ_n ?_
  refine JC_ifD rfl (fun c3 => ?_) (fun c3 => ?_)
  ·
   have hne := c3
   refine JC_seq ?_
   refine JC_region ?_
   refine JO_q (QE_mv rfl) rfl ?_
   refine JO_q (QE_mv rfl) rfl ?_
   refine JO_q (QE_mv rfl) rfl ?_
   refine JO_q (QE_mv rfl) rfl ?_
   refine JO_q (QE_stLH rfl rfl rfl rfl rfl (by omega) (by omega)) rfl ?_
   refine JO_bs [(_, _)] [_] rfl rfl rfl rfl rfl rfl rfl rfl rfl ?_
   intro βn s4 h4 hcb
   refine JO_app (sz := 1) [] Mo L rfl rfl rfl rfl rfl rfl rfl hO (Row.of_cells (hcb.le (Le.refl (D := D) _)) rfl rfl) ⟨by simp [ti9]; omega, by omega⟩ rfl ?_
   intro v2 A2x s5 h5 o2
   obtain ⟨Av2, cv2, rfl, _, _⟩ := Own.slice o2
   simp only [List.nil_append]
   refine JO_q (QE_as rfl) rfl ?_
   refine JO_nil ?_
   refine thenQ_n ?_
   refine JC_region ?_
   refine JO_q (QE_mv rfl) rfl ?_
   refine JO_q (QE_add' rfl rfl (w64 (by omega) (by omega))) rfl ?_
   refine JO_q (QE_as rfl) rfl ?_
   refine JO_nil ?_
   refine blockQ_n ?_
   refine thenQ_n ?_
   refine JC_region ?_
   refine JO_q (QE_mv rfl) rfl ?_
   refine JO_q (QE_add' rfl rfl (w64 (by omega) (by omega))) rfl ?_
   refine JO_q (QE_as rfl) rfl ?_
   refine JO_nil ?_
   refine thenQ_n ⟨(i + 1, i + 1, .slice Av2 (out.length + 1) cv2, A2x, out ++ [(l.drop f).take (i - f)]), [], (Keeps.cons rfl (Keeps.cons rfl (Keeps.cons rfl (Keeps.cons rfl (Keeps.cons rfl (Keeps.cons rfl (Keeps.nil _))))))), rfl, ⟨(Le.trans (Le.trans I1.1 h4) h5), by first | exact ⟨by simp only; omega, by simp only; omega, by simp only [List.length_append, List.length_cons, List.length_nil, sb_snoc]; exact o2, by simp; omega, by simp only; rw [hS, split_hit hch hne, List.append_assoc]; rfl⟩ | exact ⟨by simp only; omega, by simp only; omega, hO, by simp only; omega, by simp only; rw [hS, split_miss hch hne hf]⟩⟩, (by simp only; omega)⟩
  ·
   have hne := c3
   refine JC_skip ?_
   refine blockQ_n ?_
   refine thenQ_n ?_
   refine JC_region ?_
   refine JO_q (QE_mv rfl) rfl ?_
   refine JO_q (QE_add' rfl rfl (w64 (by omega) (by omega))) rfl ?_
   refine JO_q (QE_as rfl) rfl ?_
   refine JO_nil ?_
   refine thenQ_n ⟨(i + 1, f, vo, Mo, out), [], (Keeps.cons rfl (Keeps.cons rfl (Keeps.cons rfl (Keeps.cons rfl (Keeps.cons rfl (Keeps.cons rfl (Keeps.nil _))))))), rfl, ⟨I1.1, by first | exact ⟨by simp only; omega, by simp only; omega, by simp only [List.length_append, List.length_cons, List.length_nil, sb_snoc]; exact o2, by simp; omega, by simp only; rw [hS, split_hit hch hne, List.append_assoc]; rfl⟩ | exact ⟨by simp only; omega, by simp only; omega, hO, by simp only; omega, by simp only; rw [hS, split_miss hch hne hf]⟩⟩, (by simp only; omega)⟩
 ·
  have hiE : i = l.length := by omega
  subst hiE
  rw [split_end] at hS
  refine JC_exit ?_
  refine thenQ_x ?_
  refine thenQ_x ?_
  refine blockQ_x ?_
  refine thenQ_n ?_
  refine JC_seq ?_
  refine JC_region ?_
  refine JO_q (QE_mv rfl) rfl ?_
  refine JO_q (QE_mv rfl) rfl ?_
  refine JO_q (QE_mv rfl) rfl ?_
  refine JO_q (QE_stL rfl rfl rfl rfl (by omega)) rfl ?_
  refine JO_bs [(_, _)] [_] rfl rfl rfl rfl rfl rfl rfl rfl rfl ?_
  intro βn s6 h6 hcb
  refine JO_app (sz := 1) [] Mo L rfl rfl rfl rfl rfl rfl rfl hO (Row.of_cells (hcb.le (Le.refl (D := D) _)) rfl rfl) ⟨by simp [ti9]; omega, by omega⟩ rfl ?_
  intro v2 A2x s7 h7 o2
  obtain ⟨Av2, cv2, rfl, _, _⟩ := Own.slice o2
  simp only [List.nil_append]
  refine JO_q (QE_as rfl) rfl ?_
  refine JO_nil ?_
  refine thenQ_n ?_
  refine JC_ret ?_
  refine retQ_mk [] _ (.inr rfl) (.tmp rfl (.nil)) rfl (Le.trans (Le.trans I1.1 h6) h7) (fun sR hS2 => ?_)
  refine ⟨_, rfl, fun s2 hs2 hp => ⟨_, _, _, rfl, ?_⟩⟩
  rw [hS]
  exact Own.strs (by rw [sb_snoc]; exact o2) (fun x hx => by rw [← hS] at hx; have := splitF_short c [] l x hx; simp at this; omega) hp (by simp)
theorem split_ac (D : Nat) (L : Hl) (s : World) (l : List UInt8) (c : Int) (hl : l.length ≤ 1000000000) : AC Tryz.prog D 25 [St l, .int .u8 c] L s fun v L' s' => L = L' ∧ ∃ A n c', v = .slice A n c' ∧ Strs s' A n c' (splitB c l) := AC.pubW (splitO_ac D L s l c hl)
theorem Strs.get {s : World} {b off n c k : Nat} {l : List (List UInt8)} {x : List UInt8} (h : Strs s (some ⟨b, off, none⟩) n c l) (hk : l[k]? = some x) : k < n ∧ CellsAt s b (off + k) [St x] ∧ x.length ≤ 9223372036854775807 := by
  obtain ⟨b', off', cs, h1, h2, _, rfl, h4⟩ := h.2.2.2 k x hk
  injection h1 with h1; injection h1 with e1 e2; subst e1; subst e2
  exact ⟨by rw [h.1]; exact (List.getElem?_eq_some_iff.1 hk).1, by simpa using h2, h4⟩
end Go.Proofs.YteomcjpigoaioaaGreatDoor
namespace Go.FL
open Go Go.RowKit
section
variable {P : Program} {D : Nat} {L : Hl} {s : World}
theorem AC.of_calls {f : FuncId} {args : List Value} {R : Value → Hl → World → Prop} (hf : FnOK P f)
    (h : OKL D L s → Calls P f args.toArray (fill L s) fun e w' => ∃ v, e = .returned v ∧ Below (fill L s).heap.size (fill L s) w' ∧ ∀ s', w' = fill L s' → Le D s s' → (∀ k, s.heap.size ≤ k → s'.heap[k]? = w'.heap[k]?) → R v L s') : AC P D f args L s R :=
  ⟨hf, fun ho => (h ho).mono fun e w' ⟨v, he, hb, hr⟩ => by
    obtain ⟨e1, o1, l1⟩ := of_ext ho hb
    refine ⟨v, L, blank D L w', he, e1, o1, l1, hr _ e1 l1 fun k hk => blank_other fun hm => ?_⟩
    obtain ⟨x, hx, rfl⟩ := List.mem_map.1 hm
    have := ho.lt hx
    omega⟩
theorem below_refl (w : World) : Below w.heap.size w w := Below.refl _ _
theorem mark_free' (l : List Obj) : ∃ D, ∀ E, D ≤ E → ∀ o ∈ l, o ≠ dum E := by
  induction l with
  | nil => exact ⟨0, fun _ _ _ h => by cases h⟩
  | cons x l ih =>
    obtain ⟨D, h⟩ := ih
    by_cases hx : ∃ E, x = dum E
    · obtain ⟨E0, rfl⟩ := hx
      refine ⟨D + E0 + 1, fun E hE o ho => ?_⟩
      rcases List.mem_cons.1 ho with rfl | ho
      · intro e; simp only [dum] at e; injection e; omega
      · exact h E (by omega) o ho
    · refine ⟨D, fun E hE o ho => ?_⟩
      rcases List.mem_cons.1 ho with rfl | ho
      · exact fun e => hx ⟨E, e⟩
      · exact h E hE o ho
theorem mark_world' (W : World) : ∃ D, ∀ k : Nat, W.heap[k]? ≠ some (dum D) := by
  obtain ⟨D, h⟩ := mark_free' W.heap.toList
  refine ⟨D, fun k hk => h D (Nat.le_refl _) _ ?_ rfl⟩
  rw [← Array.getElem?_toList] at hk
  exact List.mem_of_getElem? hk
theorem calls_of_AC {f : FuncId} {args : List Value} {W : World} {v0 : Value} (h : ∀ D, AC P D f args [] W fun v L' _ => v = v0 ∧ [] = L') :
    Calls P f args.toArray W fun e w' => e = .returned v0 ∧ Below W.heap.size W w' := by
  obtain ⟨D, hD⟩ := mark_world' W
  refine ((h D).2 ⟨List.nodup_nil, fun _ h => by cases h⟩).mono ?_
  rintro e w' ⟨v, L', s', he, hw, _, hl, hv, hL⟩
  subst hL
  have hw' : w' = s' := hw
  subst hw'
  refine ⟨by rw [he, hv], ⟨hl.os, hl.tape, hl.output, hl.size, fun k hk => ?_⟩⟩
  rcases hl.block k hk with h1 | h1
  · exact absurd h1 (hD k)
  · exact h1
theorem AC.fn {f : FuncId} {args : List Value} {R : Value → Hl → World → Prop} (h : AC P D f args L s R) : FnOK P f := h.1
end
end Go.FL
namespace Go.Proofs.YteomcjpigoaioaaGreatDoor
open Go Go.FL Go.RowKit
def fnd (c : UInt8) : List UInt8 → Option Nat
  | [] => none
  | x :: l => if x = c then some 0 else (fnd c l).map (· + 1)
def fndI : Option Nat → Int
  | none => -1
  | some i => (i : Int)
theorem fnd_lt {c : UInt8} {l : List UInt8} {i : Nat} (h : fnd c l = some i) : i < l.length := by
  induction l generalizing i with
  | nil => cases h
  | cons x l ih =>
    simp only [fnd] at h
    split at h
    · injection h with h; subst h; simp
    · cases h' : fnd c l with
      | none => rw [h'] at h; cases h
      | some j => rw [h'] at h; simp at h; have := ih h'; simp; omega
theorem indexByte_fnd (l : List UInt8) (c : UInt8) : Lib.indexByte l c = fndI (fnd c l) := by
  induction l with
  | nil => rfl
  | cons x l ih =>
    simp only [Lib.indexByte, fnd]
    by_cases h : x = c
    · simp [h, fndI]
    · simp only [beq_iff_eq, h, if_false, ih]
      cases fnd c l with
      | none => simp [fndI]
      | some i =>
        have h1 : ¬ (i : Int) = -1 := by omega
        show (if (i : Int) = -1 then (-1 : Int) else (i : Int) + 1) = ((i + 1 : Nat) : Int)
        rw [if_neg h1]; rfl
theorem u8_eq {x c : UInt8} : x = c ↔ (x.toNat : Int) = (c.toNat : Int) := by
  constructor
  · rintro rfl; rfl
  · intro h; exact UInt8.toNat_inj.1 (by omega)
theorem findB_fnd (l : List UInt8) (c : UInt8) (j : Nat) : idxOf (fun x => decide ((x.toNat : Int) = (c.toNat : Int))) l j = match fnd c l with | none => -1 | some i => ((j + i : Nat) : Int) := by
  induction l generalizing j with
  | nil => rfl
  | cons x l ih =>
    simp only [idxOf, fnd]
    by_cases h : x = c
    · simp [h]
    · have h' : ¬ (x.toNat : Int) = (c.toNat : Int) := fun e => h (u8_eq.2 e)
      simp only [h, if_false, h', decide_false, Bool.false_eq_true, ih]
      cases fnd c l with
      | none => rfl
      | some i => show ((j + 1 + i : Nat) : Int) = ((j + (i + 1) : Nat) : Int); congr 1; omega
def cutB (c : UInt8) (l : List UInt8) : List UInt8 × List UInt8 × Bool := match fnd c l with
  | none => (l, [], false)
  | some i => (l.take i, l.drop (i + 1), true)
theorem splitF_fnd (c : UInt8) (cur l : List UInt8) : splitF (c.toNat : Int) cur l = match fnd c l with | none => [cur ++ l] | some i => (cur ++ l.take i) :: splitB (c.toNat : Int) (l.drop (i + 1)) := by
  induction l generalizing cur with
  | nil => simp [splitF, fnd]
  | cons x l ih =>
    simp only [splitF, fnd]
    by_cases h : x = c
    · simp [h, splitB]
    · have h' : ¬ (x.toNat : Int) = (c.toNat : Int) := fun e => h (u8_eq.2 e)
      simp only [h, if_false, h', ih]
      cases fnd c l with
      | none => simp
      | some i => simp
theorem splitB_fnd (c : UInt8) (l : List UInt8) : splitB (c.toNat : Int) l = match fnd c l with | none => [l] | some i => l.take i :: splitB (c.toNat : Int) (l.drop (i + 1)) := by
  rw [splitB, splitF_fnd]; cases fnd c l <;> simp
theorem count_fnd (c : UInt8) (l : List UInt8) : l.count c = match fnd c l with | none => 0 | some i => (l.drop (i + 1)).count c + 1 := by
  induction l with
  | nil => rfl
  | cons x l ih =>
    simp only [fnd]
    by_cases h : x = c
    · simp [h]
    · rw [List.count_cons]
      simp only [beq_iff_eq, h, if_false, Nat.add_zero]
      rw [ih]
      cases fnd c l with
      | none => rfl
      | some i => simp
end Go.Proofs.YteomcjpigoaioaaGreatDoor
namespace Go.Proofs.YteomcjpigoaioaaGreatDoor
open Go Go.FL Go.RowKit
structure GW (s : World) : Prop where
  pow : ∃ ty fz, s.heap[Tryz.laysM171_ren.g 17]? = some (.cells (Lib.pow10Tab.map fun z => Value.int .u64 z).toArray ty fz)
  es : ∃ t p, s.cell? ⟨Tryz.laysPu14_ren.g 0, 0, none⟩ = some (.iface t p)
  er : ∃ t p, s.cell? ⟨Tryz.laysPu14_ren.g 1, 0, none⟩ = some (.iface t p)
theorem heap_le {D : Nat} {s s' : World} {k : Nat} {cs : Array Value} {ty : TypeId} {fz : Nat × Nat} (h : s.heap[k]? = some (.cells cs ty fz)) (hl : Le D s s') : s'.heap[k]? = some (.cells cs ty fz) := by
  have hk : k < s.heap.size := by
    rcases Nat.lt_or_ge k s.heap.size with h1 | h1
    · exact h1
    · rw [Array.getElem?_eq_none h1] at h; cases h
  rcases hl.block k hk with h1 | h1
  · rw [h] at h1; simp [dum] at h1
  · rw [h1, h]
theorem GW.le {D : Nat} {s s' : World} (h : GW s) (hl : Le D s s') : GW s' := by
  obtain ⟨⟨t, f, h1⟩, ⟨t2, p2, h2⟩, ⟨t3, p3, h3⟩⟩ := h
  exact ⟨⟨t, f, heap_le h1 hl⟩, ⟨t2, p2, hl.cell h2⟩, ⟨t3, p3, hl.cell h3⟩⟩
theorem tab_of {w : World} {nm : String} (hg : Tryz.prog.globalNamed nm = some (Tryz.laysM171_ren.g 17)) (h : GW w) : Lib.TabIs Tryz.prog w nm .u64 Lib.pow10Tab := by
  obtain ⟨t, f, h1⟩ := h.pow
  simp only [Lib.TabIs, World.var?, hg, Option.bind_some, h1]
section
variable (D : Nat) (L : Hl) (s : World)
theorem fnok_itoa : FnOK Tryz.prog 53 := ⟨_, Tryz.func53, by kernel_rfl, by kernel_rfl⟩
theorem fnok_parse : FnOK Tryz.prog 155 := ⟨_, Tryz.func155, by kernel_rfl, by kernel_rfl⟩
theorem fnok_contains : FnOK Tryz.prog 89 := ⟨_, Tryz.func89, by kernel_rfl, by kernel_rfl⟩
theorem fnok_fields : FnOK Tryz.prog 118 := ⟨_, Tryz.func118, by kernel_rfl, by kernel_rfl⟩
theorem fnok_index : FnOK Tryz.prog 139 := ⟨_, Tryz.func139, by kernel_rfl, by kernel_rfl⟩
theorem fnok_suffix : FnOK Tryz.prog 120 := ⟨_, Tryz.func120, by kernel_rfl, by kernel_rfl⟩
theorem fnok_split : FnOK Tryz.prog 99 := ⟨_, Tryz.func99, by kernel_rfl, by kernel_rfl⟩
theorem itoa_ac (hG : GW s) (n : Int) (h0 : -9223372036854775808 ≤ n) (h1 : n ≤ 9223372036854775807) : AC Tryz.prog D 53 [.int .i64 n] L s fun v L' _ => v = St (Lib.itoa n) ∧ L = L' :=
  AC.of_calls fnok_itoa fun ho => (Any.strconv_Itoa Tryz.laysM171 n h0 h1 (fill L s) (tab_of Tryz.laysM171.m17 (hG.le (fill_le ho)))).mono fun e w' ⟨he, k, os, hw⟩ => by
    refine ⟨_, he, ?_, fun s' _ _ _ => ⟨rfl, rfl⟩⟩
    rw [hw]
    exact ⟨rfl, rfl, rfl, by simp [Sort.grow], fun j hj => by simp [Sort.grow, Array.getElem?_append_left hj]⟩
theorem index_ac (l : List UInt8) (c : UInt8) : AC Tryz.prog D 139 [St l, St [c]] L s fun v L' _ => v = .int .i64 (fndI (fnd c l)) ∧ L = L' :=
  AC.of_calls fnok_index fun _ => (Any.stringslite_Index_one Tryz.lays219 ⟨l.toArray⟩ c (fill L s)).mono fun e w' ⟨he, hw⟩ => by
    refine ⟨_, he, by rw [hw]; exact below_refl _, fun s' _ _ _ => ⟨?_, rfl⟩⟩
    show Value.int .i64 (Lib.indexByte l c) = _
    rw [indexByte_fnd]
def endsB (c : UInt8) (l : List UInt8) : Bool := decide (l.getLast? = some c)
theorem suffix_one (l : List UInt8) (c : UInt8) : Lib.hasSuffix l [c] = endsB c l := by
  rw [Lib.hasSuffix, endsB]
  rw [Bool.eq_iff_iff, List.isSuffixOf_iff_suffix, decide_eq_true_eq]
  constructor
  · rintro ⟨t, rfl⟩; simp
  · intro h
    obtain ⟨t, ht⟩ := List.getLast?_eq_some_iff.1 h
    exact ⟨t, ht.symm⟩
theorem cutSuffix_ac (l : List UInt8) (c : UInt8) (hl : l.length ≤ 9223372036854775807) : AC Tryz.prog D 120 [St l, St [c]] L s fun v L' _ => v = .tuple #[St (if endsB c l then l.dropLast else l), .bool (endsB c l)] ∧ L = L' :=
  AC.of_calls fnok_suffix fun _ => (Any.strings_CutSuffix Tryz.lays104 ⟨l.toArray⟩ ⟨#[c]⟩ (fill L s) (by simpa [Lib.size_eq] using hl)).mono fun e w' ⟨he, hw⟩ => by
    refine ⟨_, he, by rw [hw]; exact below_refl _, fun s' _ _ _ => ⟨?_, rfl⟩⟩
    show Value.tuple #[.string ⟨(Lib.trimSuffix l [c]).toArray⟩, .bool (Lib.hasSuffix l [c])] = _
    rw [Lib.trimSuffix, suffix_one]
    simp [List.dropLast_eq_take]
inductive PuV : List UInt8 → Value → Prop
  | ok (l : List UInt8) (u : Nat) (h : Lib.parseUintB 32 l = .ok u) : PuV l (.tuple #[.int .u64 u, .nilIface])
  | bad (l : List UInt8) (h : ∀ u, Lib.parseUintB 32 l ≠ .ok u) (n : Int) (t : TypeId) (p : Value) : PuV l (.tuple #[.int .u64 n, .iface t p])
theorem parse_ac (hG : GW s) (l : List UInt8) (hl : l.length ≤ 281474976710656) : AC Tryz.prog D 155 [St l, .int .i64 10, .int .i64 32] L s fun v L' _ => PuV l v ∧ L = L' :=
  AC.of_calls fnok_parse fun ho => by
    have hw := hG.le (fill_le ho)
    have hs : (⟨l.toArray⟩ : ByteArray).size ≤ 281474976710656 := by simpa [Lib.size_eq] using hl
    by_cases hok : ∃ u, Lib.parseUintB 32 l = .ok u
    · obtain ⟨u, hp⟩ := hok
      refine (Any.strconv_ParseUint_10_at32_ok Tryz.laysPu14 ⟨l.toArray⟩ (by omega) u hp (fill L s)).mono fun e w' ⟨he, hw'⟩ => ⟨_, he, ?_, fun s' _ _ _ => ⟨.ok l u hp, rfl⟩⟩
      rcases hw' with rfl | rfl
      · exact below_refl _
      · exact Go.Joins.below_bytesWorld _ _ _ _ (Nat.le_refl _)
    · have hno : ∀ u, Lib.parseUintB 32 l ≠ .ok u := fun u h => hok ⟨u, h⟩
      by_cases hr : Lib.parseUintB 32 l = .range
      · obtain ⟨te, pe, h1⟩ := hw.er
        refine (Any.strconv_ParseUint_10_at32_range Tryz.laysPu14 ⟨l.toArray⟩ hs hr _ (fill L s) h1 (.inr ⟨te, pe, rfl⟩)).mono fun e w' ⟨N, he, _, _, hb⟩ => ⟨_, he, hb, fun s' _ _ _ => ⟨.bad l hno _ _ _, rfl⟩⟩
      · obtain ⟨te, pe, h1⟩ := hw.es
        refine (Any.strconv_ParseUint_10_at32_syntax Tryz.laysPu14 ⟨l.toArray⟩ hs (by cases h : Lib.parseUintB 32 l <;> simp_all) _ (fill L s) h1 (.inr ⟨te, pe, rfl⟩)).mono fun e w' ⟨N, he, _, _, hb⟩ => ⟨_, he, hb, fun s' _ _ _ => ⟨.bad l hno _ _ _, rfl⟩⟩
end
end Go.Proofs.YteomcjpigoaioaaGreatDoor
namespace Go.Proofs.YteomcjpigoaioaaGreatDoor
open Go.FL
attribute [local irreducible] JC JO JA JB thenQ blockQ retQ AC fill CellsAt QE Ev Mid
set_option maxHeartbeats 1000000 in
set_option maxRecDepth 100000 in
theorem afault_ac (D : Nat) (L : Hl) (s : World) (c i : Int) : AC Tryz.prog D 50 [.int .i64 c, .int .i64 i] L s fun v L' _ => v = .agg #[.int .i64 c, .int .i64 i] ∧ L = L' := by
 refine AC_enter (TT := TT) (fn := Tryz.f50) TT_ok Tryz.func50 (by kernel_rfl) rfl Tryz.ntmps50 rfl (rs := [.cell 4 27]) rfl [(0, _), (1, _)] rfl ?_
 refine JC_seq ?_
 refine JC_region ?_
 refine JO_allocZ rfl [_, _] rfl rfl ?_
 intro β1 s1 h1
 refine JO_nil ?_
 refine thenQ_n ?_
 refine JC_seq ?_
 refine JC_region ?_
 refine JO_q (QE_mv rfl) rfl ?_
 refine JO_q (QE_mv rfl) rfl ?_
 refine JO_q (QE_build [(_, _), (_, _)] [_, _] rfl rfl rfl rfl rfl rfl) rfl ?_
 refine JO_st 0 [_, _] rfl rfl rfl rfl rfl rfl rfl rfl rfl ?_
 refine JO_nil ?_
 refine thenQ_n ?_
 refine JC_ret ?_
 refine retQ_mk [_] L (.inr rfl) (.agg (us := [_, _]) 0 rfl rfl rfl rfl rfl (.nil)) rfl h1 (fun sR hS2 => ?_)
 exact ⟨rfl, rfl⟩
set_option maxHeartbeats 1000000 in
set_option maxRecDepth 100000 in
theorem isName1_ac (D : Nat) (L : Hl) (s : World) (r : Int) : AC Tryz.prog D 90 [.int .i32 r] L s fun v L' _ => v = .bool (decide ((r < 97 ∨ 122 < r) ∧ (r < 48 ∨ 57 < r))) ∧ L = L' := by
 refine AC_enter (TT := TT) (fn := Tryz.f90) TT_ok Tryz.func90 (by kernel_rfl) rfl Tryz.ntmps90 rfl (rs := [.tmp 2]) rfl [(0, _)] rfl ?_
 refine JC_seq ?_
 refine JC_region ?_
 refine JO_q (QE_as rfl) rfl ?_
 refine JO_nil ?_
 refine thenQ_n ?_
 refine JC_seq ?_
 refine JC_region ?_
 refine JO_q (QE_mv rfl) rfl ?_
 refine JO_q (QE_lt rfl rfl) rfl ?_
 refine JO_q (QE_mv rfl) rfl ?_
 refine JO_caseD (t := 5) rfl (fun c1 => ?_) (fun c1 => ?_)
 ·
  refine JO_gF rfl rfl rfl rfl ?_
  refine JO_gF rfl rfl rfl rfl ?_
  refine JO_q (QE_pickT rfl rfl) rfl ?_
  refine JO_q (QE_mv rfl) rfl ?_
  refine JO_gT rfl rfl ?_
  refine JO_q (QE_mv rfl) rfl ?_
  refine JO_gT rfl rfl ?_
  refine JO_q (QE_lt rfl rfl) rfl ?_
  refine JO_gT rfl rfl ?_
  refine JO_q (QE_mv rfl) rfl ?_
  refine JO_caseD (t := 12) rfl (fun c2 => ?_) (fun c2 => ?_)
  ·
   refine JO_gF rfl rfl rfl rfl ?_
   refine JO_gF rfl rfl rfl rfl ?_
   refine JO_gT rfl rfl ?_
   refine JO_q (QE_pickT rfl rfl) rfl ?_
   refine JO_q (QE_pickT rfl rfl) rfl ?_
   refine JO_q (QE_as rfl) rfl ?_
   refine JO_nil ?_
   refine thenQ_n ?_
   refine JC_ret ?_
   refine retQ_mk [] L (.inr rfl) (.tmp rfl (.nil)) rfl (Le.refl (D := D) _) (fun sR hS2 => ?_)
   exact ⟨by simp_all [resV] <;> omega, rfl⟩
  ·
   refine JO_gT rfl rfl ?_
   refine JO_q (QE_mv rfl) rfl ?_
   refine JO_gT rfl rfl ?_
   refine JO_q (QE_gt rfl rfl) rfl ?_
   refine JO_gT rfl rfl ?_
   refine JO_q (QE_pickF rfl rfl) rfl ?_
   refine JO_q (QE_pickT rfl rfl) rfl ?_
   refine JO_q (QE_as rfl) rfl ?_
   refine JO_nil ?_
   refine thenQ_n ?_
   refine JC_ret ?_
   refine retQ_mk [] L (.inr rfl) (.tmp rfl (.nil)) rfl (Le.refl (D := D) _) (fun sR hS2 => ?_)
   exact ⟨by simp_all [resV] <;> omega, rfl⟩
 ·
  refine JO_gT rfl rfl ?_
  refine JO_q (QE_mv rfl) rfl ?_
  refine JO_gT rfl rfl ?_
  refine JO_q (QE_gt rfl rfl) rfl ?_
  refine JO_q (QE_pickF rfl rfl) rfl ?_
  refine JO_q (QE_mv rfl) rfl ?_
  refine JO_caseD (t := 9) rfl (fun c3 => ?_) (fun c3 => ?_)
  ·
   refine JO_gT rfl rfl ?_
   refine JO_q (QE_mv rfl) rfl ?_
   refine JO_gT rfl rfl ?_
   refine JO_q (QE_lt rfl rfl) rfl ?_
   refine JO_gT rfl rfl ?_
   refine JO_q (QE_mv rfl) rfl ?_
   refine JO_caseD (t := 12) rfl (fun c4 => ?_) (fun c4 => ?_)
   ·
    refine JO_gF rfl rfl rfl rfl ?_
    refine JO_gF rfl rfl rfl rfl ?_
    refine JO_gT rfl rfl ?_
    refine JO_q (QE_pickT rfl rfl) rfl ?_
    refine JO_q (QE_pickT rfl rfl) rfl ?_
    refine JO_q (QE_as rfl) rfl ?_
    refine JO_nil ?_
    refine thenQ_n ?_
    refine JC_ret ?_
    refine retQ_mk [] L (.inr rfl) (.tmp rfl (.nil)) rfl (Le.refl (D := D) _) (fun sR hS2 => ?_)
    exact ⟨by simp_all [resV] <;> omega, rfl⟩
   ·
    refine JO_gT rfl rfl ?_
    refine JO_q (QE_mv rfl) rfl ?_
    refine JO_gT rfl rfl ?_
    refine JO_q (QE_gt rfl rfl) rfl ?_
    refine JO_gT rfl rfl ?_
    refine JO_q (QE_pickF rfl rfl) rfl ?_
    refine JO_q (QE_pickT rfl rfl) rfl ?_
    refine JO_q (QE_as rfl) rfl ?_
    refine JO_nil ?_
    refine thenQ_n ?_
    refine JC_ret ?_
    refine retQ_mk [] L (.inr rfl) (.tmp rfl (.nil)) rfl (Le.refl (D := D) _) (fun sR hS2 => ?_)
    exact ⟨by simp_all [resV] <;> omega, rfl⟩
  ·
   refine JO_gF rfl rfl rfl rfl ?_
   refine JO_gF rfl rfl rfl rfl ?_
   refine JO_gF rfl rfl rfl rfl ?_
   refine JO_gU rfl rfl rfl ?_
   refine JO_gU rfl rfl rfl ?_
   refine JO_gF rfl rfl rfl rfl ?_
   refine JO_q (QE_pickF rfl rfl) rfl ?_
   refine JO_q (QE_as rfl) rfl ?_
   refine JO_nil ?_
   refine thenQ_n ?_
   refine JC_ret ?_
   refine retQ_mk [] L (.inr rfl) (.tmp rfl (.nil)) rfl (Le.refl (D := D) _) (fun sR hS2 => ?_)
   exact ⟨by simp_all [resV] <;> omega, rfl⟩
set_option maxHeartbeats 1000000 in
set_option maxRecDepth 100000 in
theorem readLine1_ac (D : Nat) (L : Hl) (s : World) (r : Int) : AC Tryz.prog D 119 [.int .i32 r] L s fun v L' _ => v = .bool (decide (r = 32)) ∧ L = L' := by
 refine AC_enter (TT := TT) (fn := Tryz.f119) TT_ok Tryz.func119 (by kernel_rfl) rfl Tryz.ntmps119 rfl (rs := [.tmp 2]) rfl [(0, _)] rfl ?_
 refine JC_seq ?_
 refine JC_region ?_
 refine JO_q (QE_as rfl) rfl ?_
 refine JO_nil ?_
 refine thenQ_n ?_
 refine JC_seq ?_
 refine JC_region ?_
 refine JO_q (QE_mv rfl) rfl ?_
 refine JO_q (QE_eq rfl rfl) rfl ?_
 refine JO_q (QE_as rfl) rfl ?_
 refine JO_nil ?_
 refine thenQ_n ?_
 refine JC_ret ?_
 refine retQ_mk [] L (.inr rfl) (.tmp rfl (.nil)) rfl (Le.refl (D := D) _) (fun sR hS2 => ?_)
 exact ⟨rfl, rfl⟩
end Go.Proofs.YteomcjpigoaioaaGreatDoor
namespace Go.Proofs.YteomcjpigoaioaaGreatDoor
open Go Go.FL Go.RowKit
theorem index_one (l : List UInt8) (c : UInt8) : Lib.index l [c] = Lib.indexByte l c := by
  induction l with
  | nil => rfl
  | cons b l ih =>
    simp only [Lib.index, Lib.indexByte, ih, List.isPrefixOf]
    by_cases h : b = c
    · simp [h]
    · have h' : ¬ c = b := fun e => h e.symm
      simp [h, h']
theorem index_fnd (l : List UInt8) (c : UInt8) : Lib.index l [c] = fndI (fnd c l) := by rw [index_one, indexByte_fnd]
theorem bytes_ext (l : List UInt8) (a b : Nat) : (⟨l.toArray⟩ : ByteArray).extract a b = ⟨((l.drop a).take (b - a)).toArray⟩ := by
  apply ByteArray.ext
  simp [ByteArray.data_extract]
theorem splitB_lib (c : UInt8) (k : Nat) (l : List UInt8) (h : l.count c = k) : Lib.splitB ⟨#[c]⟩ 0 k ⟨l.toArray⟩ = (splitB (c.toNat : Int) l).map fun x => ⟨x.toArray⟩ := by
  induction k generalizing l with
  | zero =>
    rw [splitB_fnd]
    have := count_fnd c l
    cases hf : fnd c l with
    | none => simp [Lib.splitB]
    | some i => rw [hf] at this; simp only at this; omega
  | succ k ih =>
    have hc := count_fnd c l
    rw [splitB_fnd]
    cases hf : fnd c l with
    | none => rw [hf] at hc; simp only at hc; omega
    | some i =>
      rw [hf] at hc
      simp only at hc
      have hi : Lib.indexB ⟨l.toArray⟩ ⟨#[c]⟩ = (i : Int) := by
        show Lib.index l [c] = _
        rw [index_fnd, hf]; rfl
      have h1 : ¬ (i : Int) = -1 := by omega
      simp only [Lib.splitB, hi, beq_iff_eq, h1, if_false, List.map_cons]
      have e1 : (⟨l.toArray⟩ : ByteArray).extract 0 ((i : Int).toNat + 0) = ⟨(l.take i).toArray⟩ := by rw [bytes_ext]; simp
      have e2 : (⟨l.toArray⟩ : ByteArray).extract ((i : Int).toNat + (⟨#[c]⟩ : ByteArray).size) (⟨l.toArray⟩ : ByteArray).size = ⟨(l.drop (i + 1)).toArray⟩ := by
        rw [bytes_ext]
        have : (⟨#[c]⟩ : ByteArray).size = 1 := rfl
        rw [this]
        have h2 : (⟨l.toArray⟩ : ByteArray).size = l.length := by simp [Lib.size_eq]
        rw [h2, List.take_of_length_le (by simp)]
        simp
      rw [e1, e2, ih _ (by omega)]
theorem split_count (c : UInt8) (l : List UInt8) : (splitB (c.toNat : Int) l).length = l.count c + 1 := by
  generalize hn : l.length = n
  induction n using Nat.strongRecOn generalizing l with
  | ind n ih =>
    rw [splitB_fnd, count_fnd]
    cases hf : fnd c l with
    | none => rfl
    | some i =>
      simp only [List.length_cons]
      rw [ih (l.drop (i + 1)).length (by have := fnd_lt hf; simp; omega) _ rfl]
section
variable (D : Nat) (L : Hl) (s : World)
theorem cells_strs {s' : World} {A : Nat} {l : List (List UInt8)} {ty : TypeId} {fz : Nat × Nat} (h : s'.heap[A]? = some (.cells ((l.map fun x => (⟨x.toArray⟩ : ByteArray)).map Value.string).toArray ty fz)) (hu : ∀ x ∈ l, x.length ≤ 9223372036854775807) (hn : l.length ≤ 9223372036854775807) : Strs s' (some ⟨A, 0, none⟩) l.length l.length l := by
  refine ⟨rfl, Nat.le_refl _, hn, fun i x hi => ⟨A, 0, [St x], rfl, ?_, rfl, rfl, hu x (List.mem_of_getElem? hi)⟩⟩
  refine CellsAt.one ?_
  simp [World.cell?, h, hi]
theorem genSplit_ac (l : List UInt8) (c : UInt8) (hl : l.length ≤ 4000000) : AC Tryz.prog D 99 [St l, St [c], .int .i64 0, .int .i64 (-1)] L s fun v L' s' => L = L' ∧ ∃ A n c', v = .slice A n c' ∧ Strs s' A n c' (splitB (c.toNat : Int) l) :=
  AC.of_calls fnok_split fun ho => by
    have hsz : (⟨l.toArray⟩ : ByteArray).size = l.length := by simp [Lib.size_eq]
    have h1 : (⟨#[c]⟩ : ByteArray).size = 1 := rfl
    have hcnt : Lib.countB ⟨l.toArray⟩ ⟨#[c]⟩ = l.count c := Lib.count_one c l
    have hcl : l.count c ≤ l.length := List.count_le_length
    refine (Any.strings_genSplit_core Tryz.lays221 (by kernel_rfl) ⟨l.toArray⟩ ⟨#[c]⟩ 0 (-1) (l.count c + 1) (fill L s) (by omega) (by omega) (by omega)
      (fun x cs hx => ?_) ?_ (by decide) (by decide) (by rw [if_pos (by decide), hcnt, hsz]; omega)).mono ?_
    · refine (Any.strings_Index_one { Tryz.lays221 with } x c _).mono fun e w' ⟨he, hw⟩ => ⟨?_, hw⟩
      rw [he]
      show _ = Ending.returned (.int .i64 (Lib.index x.data.toList [c]))
      rw [index_one]
    · refine (Any.strings_Count_one { Tryz.lays221 with } ⟨l.toArray⟩ c _).mono fun e w' ⟨he, hw⟩ => ⟨?_, hw⟩
      rw [he, hcnt]
      rfl
    · rintro e w' ⟨he, hw⟩
      rw [Nat.add_sub_cancel, splitB_lib c _ l rfl] at he hw
      have hlen := split_count c l
      refine ⟨_, he, by rw [hw]; exact (Below.refl _ _).alloc (Nat.le_refl _) _, fun s' _ _ hnew => ⟨rfl, _, _, _, rfl, ?_⟩⟩
      have hs' := hnew (fill L s).heap.size (by rw [fill_size]; exact Nat.le_refl _)
      rw [hw, heap_alloc_new] at hs'
      have e2 : Lib.cellsOf ((splitB (c.toNat : Int) l).map fun x => (⟨x.toArray⟩ : ByteArray)) (l.count c + 1) = (((splitB (c.toNat : Int) l).map fun x => (⟨x.toArray⟩ : ByteArray)).map Value.string).toArray := by
        have := Lib.cellsOf_full ((splitB (c.toNat : Int) l).map fun x => (⟨x.toArray⟩ : ByteArray))
        rw [List.length_map, hlen] at this
        exact this
      rw [e2] at hs'
      rw [← hlen, List.length_map]
      exact cells_strs hs' (fun x hx => by have := splitF_short (c.toNat : Int) [] l x hx; simp at this; omega) (by omega)
def badC (c : UInt8) : Bool := !(letB c || digB c)
def badR (x : Nat) : Bool := decide (((x : Int) < 97 ∨ 122 < (x : Int)) ∧ ((x : Int) < 48 ∨ 57 < (x : Int)))
theorem badR_badC (c : UInt8) : badR c.toNat = badC c := by
  simp only [badR, badC, letB, digB]
  rw [Bool.eq_iff_iff]
  simp only [decide_eq_true_eq, Bool.not_eq_true', Bool.or_eq_false_iff, Bool.and_eq_false_iff, decide_eq_false_iff_not]
  omega
theorem ba_get {l : List UInt8} {pos : Nat} (h : pos < (⟨l.toArray⟩ : ByteArray).size) : ∃ c, l[pos]? = some c ∧ (⟨l.toArray⟩ : ByteArray)[pos]'h = c := by
  have h' : pos < l.length := by simpa [Lib.size_eq] using h
  exact ⟨l[pos], List.getElem?_eq_getElem h', by simp [ByteArray.getElem_eq_getElem_data]⟩
theorem idx_any (l : List UInt8) (f pos : Nat) (h : l.length ≤ pos + f) : decide (0 ≤ Lib.idxFuncFrom badR true ⟨l.toArray⟩ f pos) = (l.drop pos).any badC := by
  have hsz : (⟨l.toArray⟩ : ByteArray).size = l.length := by simp [Lib.size_eq]
  induction f generalizing pos with
  | zero => rw [List.drop_of_length_le (by omega)]; rfl
  | succ f ih =>
    by_cases hp : pos < (⟨l.toArray⟩ : ByteArray).size
    · obtain ⟨c, hc, hg⟩ := ba_get hp
      have hd : l.drop pos = c :: l.drop (pos + 1) := by
        obtain ⟨h1, h2⟩ := List.getElem?_eq_some_iff.1 hc
        rw [List.drop_eq_getElem_cons h1, h2]
      rw [hd, List.any_cons]
      by_cases ha : c.toNat < 128
      · have e := decode_ascii ⟨l.toArray⟩ pos hp (by rw [hg]; exact ha)
        simp only [Lib.idxFuncFrom, hp, if_true, e, hg, badR_badC]
        cases hb : badC c with
        | true => simp
        | false => simpa using ih (pos + 1) (by omega)
      · have e := (decode_high ⟨l.toArray⟩ pos hp (by rw [hg]; omega)).1
        have hb : badC c = true := by rw [← badR_badC]; simp only [badR, decide_eq_true_eq]; omega
        have hr : badR (Utf8.decode ⟨l.toArray⟩ pos).1 = true := by simp only [badR, decide_eq_true_eq]; omega
        simp only [Lib.idxFuncFrom, hp, if_true, hr, hb]
        simp
    · rw [Lib.idxFuncFrom_end _ _ _ _ _ hp, List.drop_of_length_le (by omega)]; rfl
theorem enters_name : ∀ args w, (callFunc 90 args).run Tryz.prog w = .ok (.enter 90 args) w := enters_of Tryz.func90 (by kernel_rfl) rfl
theorem enters_blank : ∀ args w, (callFunc 119 args).run Tryz.prog w = .ok (.enter 119 args) w := enters_of Tryz.func119 (by kernel_rfl) rfl
theorem contains_ac (l : List UInt8) : AC Tryz.prog D 89 [St l, .func (.func 90) #[] #[]] L s fun v L' _ => v = .bool (l.any badC) ∧ L = L' :=
  AC.of_calls fnok_contains fun _ => by
    refine (Any.strings_ContainsFunc_grows Tryz.laysGw17 90 #[] enters_name badR ⟨l.toArray⟩ (fill L s) (fun W x _ _ => ?_)).mono ?_
    · exact calls_of_AC (args := [.int .i32 (x : Int)]) fun D => isName1_ac D [] W x
    · rintro e w' ⟨he, hb⟩
      refine ⟨_, he, hb, fun s' _ _ _ => ⟨?_, rfl⟩⟩
      have := idx_any l (⟨l.toArray⟩ : ByteArray).size 0 (by simp [Lib.size_eq])
      rw [List.drop_zero] at this
      rw [← this]; rfl
def fldF : List UInt8 → List UInt8 → List (List UInt8)
  | cur, [] => if cur = [] then [] else [cur]
  | cur, x :: r => if x = 32 then (if cur = [] then fldF [] r else cur :: fldF [] r) else fldF (cur ++ [x]) r
def fldB (l : List UInt8) : List (List UInt8) := (splitB 32 l).filter fun x => decide (x ≠ [])
theorem fld_filter (cur l : List UInt8) : (splitF 32 cur l).filter (fun x => decide (x ≠ [])) = fldF cur l := by
  induction l generalizing cur with
  | nil => by_cases h : cur = [] <;> simp [splitF, fldF, h]
  | cons x l ih =>
    have hx : ((x.toNat : Int) = 32) ↔ x = 32 := (u8_eq (c := 32)).symm
    by_cases h : x = 32
    · by_cases hc : cur = [] <;> simp [splitF, fldF, h, hc, ← ih]
    · have h' : ¬ (x.toNat : Int) = 32 := fun e => h (hx.1 e)
      simp only [splitF, fldF, h, h', if_false, ih]
theorem fldF_run (cur m r : List UInt8) (h : ∀ x ∈ m, x ≠ 32) : fldF cur (m ++ r) = fldF (cur ++ m) r := by
  induction m generalizing cur with
  | nil => simp
  | cons x m ih =>
    have hx : x ≠ 32 := h x (List.mem_cons_self ..)
    simp only [List.cons_append, fldF, hx, if_false]
    rw [ih _ (fun y hy => h y (List.mem_cons_of_mem _ hy))]
    simp
theorem high_run (l : List UInt8) (pos : Nat) (hp : pos < l.length) (c : UInt8) (hc : l[pos]? = some c) (ha : ¬ c.toNat < 128) :
    ∃ K, (Utf8.decode ⟨l.toArray⟩ pos).2 = K ∧ 1 ≤ K ∧ pos + K ≤ l.length ∧ ∀ x ∈ (l.drop pos).take K, x ≠ 32 := by
  have hsz : (⟨l.toArray⟩ : ByteArray).size = l.length := by simp [Lib.size_eq]
  have g : ∀ i, (⟨l.toArray⟩ : ByteArray).get! i = l.getD i 0 := by
    intro i
    show (l.toArray)[i]! = _
    simp [List.getD_eq_getElem?_getD]
    rfl
  have hd := Lib.decode_at ⟨l.toArray⟩ pos
  rw [hsz, g, g, g, g] at hd
  have h0 : l.getD pos 0 = c := by simp [List.getD_eq_getElem?_getD, hc]
  rw [h0] at hd
  have key : ∀ (K : Nat), 1 ≤ K → K ≤ 4 → pos + K ≤ l.length → (∀ j, 1 ≤ j → j < K → 128 ≤ (l.getD (pos + j) 0).toNat) → ∀ x ∈ (l.drop pos).take K, x ≠ 32 := by
    intro K h1 h4 hK hall x hx e
    obtain ⟨j, hj, hxj⟩ := List.mem_iff_getElem.1 hx
    have hjK : j < K := by simp at hj; omega
    have hv : l.getD (pos + j) 0 = x := by
      rw [← hxj]; simp [List.getD_eq_getElem?_getD]
      rw [List.getElem?_eq_getElem (by omega)]; rfl
    by_cases hj0 : j = 0
    · subst hj0; simp only [Nat.add_zero] at hv; rw [h0] at hv; subst e; subst hv; exact ha (by decide)
    · have := hall j (by omega) hjK
      rw [hv, e] at this
      exact absurd this (by decide)
  refine ⟨_, rfl, ?_⟩
  rw [hd]
  unfold Lib.decodeN
  rw [if_neg ha]
  split
  · rename_i h2
    split
    · refine ⟨by simp only; omega, by simp only; omega, key 2 (by omega) (by omega) (by omega) (fun j h1 hj => ?_)⟩
      obtain rfl : j = 1 := by omega
      omega
    · exact ⟨by simp only; omega, by simp only; omega, key 1 (by omega) (by omega) (by omega) (fun j h1 hj => by omega)⟩
  · split
    · rename_i h2 h3
      split
      · refine ⟨by simp only; omega, by simp only; omega, key 3 (by omega) (by omega) (by omega) (fun j h1 hj => ?_)⟩
        rcases (by omega : j = 1 ∨ j = 2) with rfl | rfl <;> omega
      · exact ⟨by simp only; omega, by simp only; omega, key 1 (by omega) (by omega) (by omega) (fun j h1 hj => by omega)⟩
    · split
      · rename_i h2 h3 h4
        split
        · refine ⟨by simp only; omega, by simp only; omega, key 4 (by omega) (by omega) (by omega) (fun j h1 hj => ?_)⟩
          rcases (by omega : j = 1 ∨ j = 2 ∨ j = 3) with rfl | rfl | rfl <;> omega
        · exact ⟨by simp only; omega, by simp only; omega, key 1 (by omega) (by omega) (by omega) (fun j h1 hj => by omega)⟩
      · exact ⟨by simp only; omega, by simp only; omega, key 1 (by omega) (by omega) (by omega) (fun j h1 hj => by omega)⟩
def blkR (x : Nat) : Bool := decide ((x : Int) = 32)
def pieceL (l : List UInt8) (x : Nat × Nat) : List UInt8 := (l.drop x.1).take (x.2 - x.1)
def curL (l : List UInt8) (pos : Nat) : Option Nat → List UInt8
  | none => []
  | some a => (l.drop a).take (pos - a)
theorem take_more (l : List UInt8) {a pos K : Nat} (h : a ≤ pos) : (l.drop a).take (pos + K - a) = (l.drop a).take (pos - a) ++ (l.drop pos).take K := by
  have : pos + K - a = (pos - a) + K := by omega
  rw [this, List.take_add, List.drop_drop]
  have e : a + (pos - a) = pos := by omega
  rw [e]
theorem spans_end (l : List UInt8) (pos : Nat) (st : Option Nat) (acc : List (Nat × Nat)) (h : l.length ≤ pos) (hst : ∀ a, st = some a → a < pos ∧ pos ≤ l.length) :
    (Lib.closeSpans ⟨l.toArray⟩ (acc, st)).map (pieceL l) = acc.map (pieceL l) ++ fldF (curL l pos st) (l.drop pos) := by
  have hsz : (⟨l.toArray⟩ : ByteArray).size = l.length := by simp [Lib.size_eq]
  rw [List.drop_of_length_le h]
  cases st with
  | none => simp [Lib.closeSpans, curL, fldF]
  | some a =>
    obtain ⟨h1, h2⟩ := hst a rfl
    have hp : pos = l.length := by omega
    subst hp
    have hne : (l.drop a).take (l.length - a) ≠ [] := by
      intro e
      have := congrArg List.length e
      simp at this; omega
    simp [Lib.closeSpans, curL, fldF, hne, pieceL, hsz]
theorem spans_fld (l : List UInt8) (f pos : Nat) (st : Option Nat) (acc : List (Nat × Nat)) (h : l.length ≤ pos + f) (hst : ∀ a, st = some a → a < pos ∧ pos ≤ l.length) :
    (Lib.closeSpans ⟨l.toArray⟩ (Lib.spansFromP blkR ⟨l.toArray⟩ f pos st acc)).map (pieceL l) = acc.map (pieceL l) ++ fldF (curL l pos st) (l.drop pos) := by
  have hsz : (⟨l.toArray⟩ : ByteArray).size = l.length := by simp [Lib.size_eq]
  induction f generalizing pos st acc with
  | zero => exact spans_end l pos st acc (by omega) hst
  | succ f ih =>
    by_cases hp : pos < (⟨l.toArray⟩ : ByteArray).size
    · obtain ⟨c, hc, hg⟩ := ba_get hp
      have hpl : pos < l.length := by omega
      have hd : l.drop pos = c :: l.drop (pos + 1) := by
        obtain ⟨h1, h2⟩ := List.getElem?_eq_some_iff.1 hc
        rw [List.drop_eq_getElem_cons h1, h2]
      -- a piece without blanks goes on
      have go : ∀ K, (Utf8.decode ⟨l.toArray⟩ pos).2 = K → blkR (Utf8.decode ⟨l.toArray⟩ pos).1 = false → 1 ≤ K → pos + K ≤ l.length → (∀ x ∈ (l.drop pos).take K, x ≠ 32) →
          (Lib.closeSpans ⟨l.toArray⟩ (Lib.spansFromP blkR ⟨l.toArray⟩ (f + 1) pos st acc)).map (pieceL l) = acc.map (pieceL l) ++ fldF (curL l pos st) (l.drop pos) := by
        intro K hK hb h1 h2 hall
        have hrun : fldF (curL l pos st) (l.drop pos) = fldF (curL l pos st ++ (l.drop pos).take K) (l.drop (pos + K)) := by
          conv => lhs; rw [← List.take_append_drop K (l.drop pos), List.drop_drop]
          exact fldF_run _ _ _ hall
        rw [hrun]
        simp only [Lib.spansFromP, hp, if_true, hb, hK, Bool.false_eq_true, if_false]
        cases st with
        | none =>
          simp only
          rw [ih (pos + K) (some pos) acc (by omega) (fun a ha => by injection ha with ha; omega)]
          simp only [curL, List.nil_append]
          congr 3
          omega
        | some a =>
          obtain ⟨ha1, ha2⟩ := hst a rfl
          simp only
          rw [ih (pos + K) (some a) acc (by omega) (fun a' ha => by injection ha with ha; omega)]
          simp only [curL]
          rw [take_more l (by omega)]
      by_cases ha : c.toNat < 128
      · have e := decode_ascii ⟨l.toArray⟩ pos hp (by rw [hg]; exact ha)
        rw [hg] at e
        by_cases h32 : c = 32
        · have hb : blkR (Utf8.decode ⟨l.toArray⟩ pos).1 = true := by rw [e, h32]; rfl
          rw [hd]
          simp only [Lib.spansFromP, hp, if_true, hb]
          cases st with
          | none =>
            simp only [e]
            rw [ih (pos + 1) none acc (by omega) (fun a ha => by cases ha)]
            simp [curL, fldF, h32]
          | some a =>
            obtain ⟨ha1, ha2⟩ := hst a rfl
            have hne : (l.drop a).take (pos - a) ≠ [] := by
              intro e
              have := congrArg List.length e
              simp at this; omega
            simp only [e]
            rw [ih (pos + 1) none _ (by omega) (fun a ha => by cases ha)]
            simp [curL, fldF, h32, hne, pieceL]
        · refine go 1 (by rw [e]) ?_ (by omega) (by omega) ?_
          · rw [e]
            simp only [blkR, decide_eq_false_iff_not]
            exact fun h => h32 ((u8_eq (c := 32)).2 h)
          · rw [hd]; simpa using h32
      · obtain ⟨K, hK, h1, h2, h3⟩ := high_run l pos hpl c hc ha
        refine go K hK ?_ h1 h2 h3
        have := (decode_high ⟨l.toArray⟩ pos hp (by rw [hg]; omega)).1
        simp only [blkR, decide_eq_false_iff_not]
        omega
    · rw [Lib.spansFromP_end _ _ _ _ _ _ hp]
      exact spans_end l pos st acc (by omega) hst
theorem goFields (l : List UInt8) : Lib.goFieldsP blkR ⟨l.toArray⟩ = (fldB l).map fun x => ⟨x.toArray⟩ := by
  have hsz : (⟨l.toArray⟩ : ByteArray).size = l.length := by simp [Lib.size_eq]
  have h := spans_fld l (⟨l.toArray⟩ : ByteArray).size 0 none [] (by omega) (fun a ha => by cases ha)
  simp only [List.map_nil, List.nil_append, curL, List.drop_zero] at h
  rw [← fld_filter] at h
  show (Lib.closeSpans ⟨l.toArray⟩ (Lib.spansFromP blkR ⟨l.toArray⟩ (⟨l.toArray⟩ : ByteArray).size 0 none [])).map (fun x => (⟨l.toArray⟩ : ByteArray).extract x.1 x.2) = _
  rw [fldB, splitB, ← h, List.map_map]
  congr 1
  funext x
  simp only [Function.comp, bytes_ext, pieceL]
theorem fld_mem {l x : List UInt8} (h : x ∈ fldB l) : x ≠ [] ∧ x.length ≤ l.length := by
  obtain ⟨h1, h2⟩ := List.mem_filter.1 h
  have := splitF_short 32 [] l x h1
  exact ⟨by simpa using h2, by simpa using this⟩
theorem fld_len (l : List UInt8) : (fldB l).length ≤ l.length + 1 := Nat.le_trans (List.length_filter_le _ _) (splitF_len 32 [] l)
theorem fields_ac (l : List UInt8) (hl : l.length ≤ 4000000) : AC Tryz.prog D 118 [St l, .func (.func 119) #[] #[]] L s fun v L' s' => L = L' ∧ ∃ A n c', v = .slice A n c' ∧ Strs s' A n c' (fldB l) :=
  AC.of_calls fnok_fields fun _ => by
    have hsz : (⟨l.toArray⟩ : ByteArray).size = l.length := by simp [Lib.size_eq]
    refine (Any.strings_FieldsFunc_grows Tryz.lays229 119 #[] enters_blank blkR ⟨l.toArray⟩ (fill L s) (by omega) (fun W x _ _ => ?_) (by kernel_rfl) (by kernel_rfl)).mono ?_
    · exact calls_of_AC (args := [.int .i32 (x : Int)]) fun D => readLine1_ac D [] W x
    · rintro e w' ⟨A, he, hA, hown, hb⟩
      refine ⟨_, he, hb, fun s' _ _ hnew => ⟨rfl, _, _, _, rfl, ?_⟩⟩
      rw [goFields, List.length_map] at hown ⊢
      rcases hown.2 with ⟨h0, _⟩ | ⟨g, cap, cur, h1, h2, h3, h4, h5, h6, h7⟩
      · cases h0
      · injection h1 with h1 _ hcap
        injection h1 with h1
        injection h1 with h1
        subst h1; subst hcap
        rw [← hnew A (by rw [fill_size] at hA; exact hA)] at h3
        have hcur : cur = (((fldB l).map fun x => (⟨x.toArray⟩ : ByteArray)).map Value.string).toArray := by
          have e1 : cur.toList = ((fldB l).map fun x => (⟨x.toArray⟩ : ByteArray)).map Value.string := by
            rw [← h7, List.take_of_length_le (by rw [Array.length_toList, h6]; exact Nat.le_refl _)]
          rw [← e1, Array.toArray_toList]
        rw [hcur] at h3
        exact cells_strs h3 (fun x hx => by have := (fld_mem hx).2; omega) (by have := fld_len l; omega)
end
end Go.Proofs.YteomcjpigoaioaaGreatDoor
namespace Go.Proofs.YteomcjpigoaioaaGreatDoor
open Go.FL
attribute [local irreducible] JC JO JA JB thenQ blockQ retQ AC fill CellsAt QE Ev Mid
theorem chars_any {l : List UInt8} {i : Nat} (hi : i ≠ 0) : charsFrom i l = !l.any badC := by
  induction l generalizing i with
  | nil => rfl
  | cons c l ih =>
    simp only [charsFrom, List.any_cons, ih (by omega : i + 1 ≠ 0), chOK, badC, hi, ne_eq, not_false_eq_true, decide_true, Bool.and_true, Bool.not_or]
    cases letB c <;> cases digB c <;> rfl
theorem name_label {l : List UInt8} {c : UInt8} (h : l[0]? = some c) (h6 : l.length ≤ 6) (hc : ¬ ((c.toNat : Int) < 97) ∧ ¬ (122 < (c.toNat : Int))) : labelB l = !l.any badC := by
  obtain ⟨r, rfl⟩ := head_tail h
  have hl : letB c = true := by simp only [letB, Bool.and_eq_true, decide_eq_true_eq]; omega
  have h7 : decide ((c :: r).length ≤ 6) = true := decide_eq_true h6
  have hb : badC c = false := by simp [badC, hl]
  simp only [labelB, charsFrom, chOK, hl, h7, Bool.true_or, Bool.true_and, List.any_cons, hb, Bool.false_or, chars_any (l := r) (i := 0 + 1) (by omega)]
  simp
theorem name_not {l : List UInt8} {c : UInt8} (h : l[0]? = some c) (hc : (c.toNat : Int) < 97 ∨ 122 < (c.toNat : Int)) : labelB l = false := by
  obtain ⟨r, rfl⟩ := head_tail h
  have hl : letB c = false := by rw [Bool.eq_false_iff]; simp only [letB, ne_eq, Bool.and_eq_true, decide_eq_true_eq]; omega
  simp [labelB, charsFrom, chOK, hl]
set_option maxHeartbeats 1000000 in
set_option maxRecDepth 100000 in
theorem aName_ac (D : Nat) (L : Hl) (s : World) (l : List UInt8) : AC Tryz.prog D 59 [St l] L s fun v L' _ => v = .bool (labelB l) ∧ L = L' := by
 refine AC_enter (TT := TT) (fn := Tryz.f59) TT_ok Tryz.func59 (by kernel_rfl) rfl Tryz.ntmps59 rfl (rs := [.tmp 2]) rfl [(0, _)] rfl ?_
 refine JC_seq ?_
 refine JC_region ?_
 refine JO_q (QE_as rfl) rfl ?_
 refine JO_nil ?_
 refine thenQ_n ?_
 refine JC_seq ?_
 refine JC_seq ?_
 refine JC_region ?_
 refine JO_q (QE_mv rfl) rfl ?_
 refine JO_q (QE_seq rfl rfl) rfl ?_
 refine JO_q (QE_mv rfl) rfl ?_
 refine JO_caseD (t := 5) rfl (fun c1 => ?_) (fun c1 => ?_)
 ·
  refine JO_gF rfl rfl rfl rfl ?_
  refine JO_gF rfl rfl rfl rfl ?_
  refine JO_gF rfl rfl rfl rfl ?_
  refine JO_q (QE_pickT rfl rfl) rfl ?_
  refine JO_q (QE_mv rfl) rfl ?_
  refine JO_gF rfl rfl rfl rfl ?_
  refine JO_gF rfl rfl rfl rfl ?_
  refine JO_gF rfl rfl rfl rfl ?_
  refine JO_q (QE_pickT rfl rfl) rfl ?_
  refine JO_q (QE_mv rfl) rfl ?_
  refine JO_gF rfl rfl rfl rfl ?_
  refine JO_gF rfl rfl rfl rfl ?_
  refine JO_gF rfl rfl rfl rfl ?_
  refine JO_q (QE_pickT rfl rfl) rfl ?_
  refine JO_nil ?_
  refine thenQ_n ?_
  refine JC_ifT rfl ?_
  refine JC_seq ?_
  refine JC_region ?_
  refine JO_q (QE_as rfl) rfl ?_
  refine JO_nil ?_
  refine thenQ_n ?_
  refine JC_ret ?_
  refine thenQ_r ?_
  refine retQ_mk [] L (.inr rfl) (.tmp rfl (.nil)) rfl (Le.refl (D := D) _) (fun sR hS2 => ?_)
  refine ⟨?_, rfl⟩
  first
    | (simp [resV, labelB, *]; done)
    | (rw [show labelB l = false from name_not hch (by omega)]; rfl)
    | (have h6 : ¬ l.length ≤ 6 := by omega
       simp [resV, labelB, h6]; done)
    | (rw [name_label hch (by omega) (by omega)]; rfl)
 ·
  refine JO_gT rfl rfl ?_
  refine JO_q (QE_mv rfl) rfl ?_
  refine JO_gT rfl rfl ?_
  refine JO_q (QE_lenT rfl rfl rfl) rfl ?_
  refine JO_gT rfl rfl ?_
  refine JO_q (QE_gt rfl rfl) rfl ?_
  refine JO_q (QE_pickF rfl rfl) rfl ?_
  refine JO_q (QE_mv rfl) rfl ?_
  refine JO_caseD (t := 10) rfl (fun c2 => ?_) (fun c2 => ?_)
  ·
   refine JO_gF rfl rfl rfl rfl ?_
   refine JO_gF rfl rfl rfl rfl ?_
   refine JO_gF rfl rfl rfl rfl ?_
   refine JO_q (QE_pickT rfl rfl) rfl ?_
   refine JO_q (QE_mv rfl) rfl ?_
   refine JO_gF rfl rfl rfl rfl ?_
   refine JO_gF rfl rfl rfl rfl ?_
   refine JO_gF rfl rfl rfl rfl ?_
   refine JO_q (QE_pickT rfl rfl) rfl ?_
   refine JO_nil ?_
   refine thenQ_n ?_
   refine JC_ifT rfl ?_
   refine JC_seq ?_
   refine JC_region ?_
   refine JO_q (QE_as rfl) rfl ?_
   refine JO_nil ?_
   refine thenQ_n ?_
   refine JC_ret ?_
   refine thenQ_r ?_
   refine retQ_mk [] L (.inr rfl) (.tmp rfl (.nil)) rfl (Le.refl (D := D) _) (fun sR hS2 => ?_)
   refine ⟨?_, rfl⟩
   first
     | (simp [resV, labelB, *]; done)
     | (rw [show labelB l = false from name_not hch (by omega)]; rfl)
     | (have h6 : ¬ l.length ≤ 6 := by omega
        simp [resV, labelB, h6]; done)
     | (rw [name_label hch (by omega) (by omega)]; rfl)
  ·
   refine JO_gT rfl rfl ?_
   refine JO_q (QE_mv rfl) rfl ?_
   refine JO_gT rfl rfl ?_
   obtain ⟨ch, hch⟩ : ∃ ch, l[0]? = some ch := ⟨_, List.getElem?_eq_getElem (List.length_pos_iff.2 (by assumption))⟩
   refine JO_q (QE_ix rfl rfl rfl rfl hch) rfl ?_
   refine JO_gT rfl rfl ?_
   refine JO_q (QE_lt rfl rfl) rfl ?_
   refine JO_q (QE_pickF rfl rfl) rfl ?_
   refine JO_q (QE_mv rfl) rfl ?_
   refine JO_caseD (t := 15) rfl (fun c3 => ?_) (fun c3 => ?_)
   ·
    refine JO_gF rfl rfl rfl rfl ?_
    refine JO_gF rfl rfl rfl rfl ?_
    refine JO_gF rfl rfl rfl rfl ?_
    refine JO_q (QE_pickT rfl rfl) rfl ?_
    refine JO_nil ?_
    refine thenQ_n ?_
    refine JC_ifT rfl ?_
    refine JC_seq ?_
    refine JC_region ?_
    refine JO_q (QE_as rfl) rfl ?_
    refine JO_nil ?_
    refine thenQ_n ?_
    refine JC_ret ?_
    refine thenQ_r ?_
    refine retQ_mk [] L (.inr rfl) (.tmp rfl (.nil)) rfl (Le.refl (D := D) _) (fun sR hS2 => ?_)
    refine ⟨?_, rfl⟩
    first
      | (simp [resV, labelB, *]; done)
      | (rw [show labelB l = false from name_not hch (by omega)]; rfl)
      | (have h6 : ¬ l.length ≤ 6 := by omega
         simp [resV, labelB, h6]; done)
      | (rw [name_label hch (by omega) (by omega)]; rfl)
   ·
    refine JO_gT rfl rfl ?_
    refine JO_q (QE_mv rfl) rfl ?_
    refine JO_gT rfl rfl ?_
    refine JO_q (QE_ix rfl rfl rfl rfl hch) rfl ?_
    refine JO_gT rfl rfl ?_
    refine JO_q (QE_gt rfl rfl) rfl ?_
    refine JO_q (QE_pickF rfl rfl) rfl ?_
    refine JO_nil ?_
    refine thenQ_n ?_
    refine JC_ifD rfl (fun c4 => ?_) (fun c4 => ?_)
    ·
     refine JC_seq ?_
     refine JC_region ?_
     refine JO_q (QE_as rfl) rfl ?_
     refine JO_nil ?_
     refine thenQ_n ?_
     refine JC_ret ?_
     refine thenQ_r ?_
     refine retQ_mk [] L (.inr rfl) (.tmp rfl (.nil)) rfl (Le.refl (D := D) _) (fun sR hS2 => ?_)
     refine ⟨?_, rfl⟩
     first
       | (simp [resV, labelB, *]; done)
       | (rw [show labelB l = false from name_not hch (by omega)]; rfl)
       | (have h6 : ¬ l.length ≤ 6 := by omega
          simp [resV, labelB, h6]; done)
       | (rw [name_label hch (by omega) (by omega)]; rfl)
    ·
     refine JC_skip ?_
     refine thenQ_n ?_
     refine JC_seq ?_
     refine JC_region ?_
     refine JO_q (QE_mv rfl) rfl ?_
     refine JO_call (first := []) (captured := []) rfl rfl rfl (contains_ac D _ _ _) ?_
     rintro _ _ s5 h5 ⟨rfl, rfl⟩
     refine JO_q (QE_not rfl) rfl ?_
     refine JO_q (QE_as rfl) rfl ?_
     refine JO_nil ?_
     refine thenQ_n ?_
     refine JC_ret ?_
     refine retQ_mk [] L (.inr rfl) (.tmp rfl (.nil)) rfl h5 (fun sR hS2 => ?_)
     refine ⟨?_, rfl⟩
     first
       | (simp [resV, labelB, *]; done)
       | (rw [show labelB l = false from name_not hch (by omega)]; rfl)
       | (have h6 : ¬ l.length ≤ 6 := by omega
          simp [resV, labelB, h6]; done)
       | (rw [name_label hch (by omega) (by omega)]; rfl)
theorem fnd_cut (c : UInt8) (l : List UInt8) : (fndI (fnd c l) < 0 ∧ cutB c l = (l, [], false)) ∨ ∃ i : Nat, fndI (fnd c l) = (i : Int) ∧ i + 1 ≤ l.length ∧ cutB c l = (l.take i, l.drop (i + 1), true) := by
  cases h : fnd c l with
  | none => exact .inl ⟨by simp [fndI], by simp [cutB, h]⟩
  | some i => exact .inr ⟨i, rfl, fnd_lt h, by simp [cutB, h]⟩
set_option maxHeartbeats 1000000 in
set_option maxRecDepth 100000 in
theorem cut0_ac (D : Nat) (L : Hl) (s : World) (l : List UInt8) (c : UInt8) (hl : l.length ≤ 9223372036854775806) : AC Tryz.prog D 140 [St l, St [c]] L s fun v L' _ => v = .tuple #[St (cutB c l).1, St (cutB c l).2.1, .bool (cutB c l).2.2] ∧ L = L' := by
 refine AC_enter (TT := TT) (fn := Tryz.f140) TT_ok Tryz.func140 (by kernel_rfl) rfl Tryz.ntmps140 rfl (rs := [.tmp 4, .tmp 5, .tmp 6]) rfl [(0, _), (1, _)] rfl ?_
 refine JC_seq ?_
 refine JC_region ?_
 refine JO_q (QE_as rfl) rfl ?_
 refine JO_q (QE_as rfl) rfl ?_
 refine JO_q (QE_as rfl) rfl ?_
 refine JO_nil ?_
 refine thenQ_n ?_
 refine JC_seq ?_
 refine JC_seq ?_
 refine JC_region ?_
 refine JO_q (QE_mv rfl) rfl ?_
 refine JO_q (QE_mv rfl) rfl ?_
 refine JO_call (first := []) (captured := []) rfl rfl rfl (index_ac D _ _ _ _) ?_
 rintro _ _ s1 h1 ⟨rfl, rfl⟩
 refine JO_q (QE_as rfl) rfl ?_
 refine JO_nil ?_
 refine thenQ_n ?_
 refine JC_seq ?_
 refine JC_region ?_
 refine JO_q (QE_mv rfl) rfl ?_
 refine JO_q (QE_ge rfl rfl) rfl ?_
 refine JO_nil ?_
 refine thenQ_n ?_
 refine JC_ifD rfl (fun c2 => ?_) (fun c2 => ?_)
 ·
  obtain ⟨hneg, _⟩ | ⟨i, hi, hil, hcut⟩ := fnd_cut c l
  · exact absurd c2 (by omega)
  rw [hi]
  refine JC_seq ?_
  refine JC_draw drawsMixed 12 rfl _ (fun _ h => h) ?_
  intro s3 h3
  refine JA_q 0 rfl (by kernel_rfl) (by kernel_rfl) (by kernel_rfl) trivial (QE_mv rfl) rfl ?_
  refine JA_q 1 rfl (by kernel_rfl) (by kernel_rfl) (by kernel_rfl) trivial (QE_mv rfl) rfl ?_
  refine JA_q 2 rfl (by kernel_rfl) (by kernel_rfl) (by kernel_rfl) trivial (QE_stH rfl rfl rfl rfl (by omega)) rfl ?_
  refine JA_q 3 rfl (by kernel_rfl) (by kernel_rfl) (by kernel_rfl) trivial (QE_mv rfl) rfl ?_
  refine JA_q 4 rfl (by kernel_rfl) (by kernel_rfl) (by kernel_rfl) trivial (QE_mv rfl) rfl ?_
  refine JA_q 5 rfl (by kernel_rfl) (by kernel_rfl) (by kernel_rfl) trivial (QE_mv rfl) rfl ?_
  refine JA_q 6 rfl (by kernel_rfl) (by kernel_rfl) (by kernel_rfl) trivial (QE_lenT rfl rfl rfl) rfl ?_
  refine JA_q 7 rfl (by kernel_rfl) (by kernel_rfl) (by kernel_rfl) trivial (QE_add' (c := ((i + 1 : Nat) : Int)) rfl rfl (by rw [w64 (by simp; omega) (by simp; omega)]; simp)) rfl ?_
  refine JA_q 8 rfl (by kernel_rfl) (by kernel_rfl) (by kernel_rfl) trivial (QE_stL rfl rfl rfl rfl (by omega)) rfl ?_
  refine JA_q 9 rfl (by kernel_rfl) (by kernel_rfl) (by kernel_rfl) trivial (QE_as rfl) rfl ?_
  refine JA_q 10 rfl (by kernel_rfl) (by kernel_rfl) (by kernel_rfl) trivial (QE_as rfl) rfl ?_
  refine JA_q 11 rfl (by kernel_rfl) (by kernel_rfl) (by kernel_rfl) trivial (QE_as rfl) rfl ?_
  refine JA_done (by kernel_rfl) ?_
  refine thenQ_n ?_
  refine JC_ret ?_
  refine thenQ_r ?_
  refine retQ_mk [] L (.inr rfl) (.tmp rfl (.tmp rfl (.tmp rfl (.nil)))) rfl (Le.trans h1 h3) (fun sR hS2 => ?_)
  refine ⟨?_, rfl⟩
  rw [hcut]
  rfl
 ·
  obtain ⟨hneg, hcut⟩ | ⟨i, hi, _, _⟩ := fnd_cut c l
  rotate_left
  · exact absurd c2 (by omega)
  refine JC_skip ?_
  refine thenQ_n ?_
  refine JC_seq ?_
  refine JC_region ?_
  refine JO_q (QE_mv rfl) rfl ?_
  refine JO_q (QE_as rfl) rfl ?_
  refine JO_q (QE_as rfl) rfl ?_
  refine JO_q (QE_as rfl) rfl ?_
  refine JO_nil ?_
  refine thenQ_n ?_
  refine JC_ret ?_
  refine retQ_mk [] L (.inr rfl) (.tmp rfl (.tmp rfl (.tmp rfl (.nil)))) rfl h1 (fun sR hS2 => ?_)
  refine ⟨?_, rfl⟩
  rw [hcut]
  rfl
set_option maxHeartbeats 1000000 in
set_option maxRecDepth 100000 in
theorem cut_ac (D : Nat) (L : Hl) (s : World) (l : List UInt8) (c : UInt8) (hl : l.length ≤ 9223372036854775806) : AC Tryz.prog D 117 [St l, St [c]] L s fun v L' _ => v = .tuple #[St (cutB c l).1, St (cutB c l).2.1, .bool (cutB c l).2.2] ∧ L = L' := by
 refine AC_enter (TT := TT) (fn := Tryz.f117) TT_ok Tryz.func117 (by kernel_rfl) rfl Tryz.ntmps117 rfl (rs := [.tmp 4, .tmp 5, .tmp 6]) rfl [(0, _), (1, _)] rfl ?_
 refine JC_seq ?_
 refine JC_region ?_
 refine JO_q (QE_as rfl) rfl ?_
 refine JO_q (QE_as rfl) rfl ?_
 refine JO_q (QE_as rfl) rfl ?_
 refine JO_nil ?_
 refine thenQ_n ?_
 refine JC_seq ?_
 refine JC_region ?_
 refine JO_q (QE_mv rfl) rfl ?_
 refine JO_q (QE_mv rfl) rfl ?_
 refine JO_call (first := []) (captured := []) rfl rfl rfl (cut0_ac D _ _ _ _ hl) ?_
 rintro _ _ s1 h1 ⟨rfl, rfl⟩
 refine JO_q (QE_ext rfl rfl) rfl ?_
 refine JO_q (QE_ext rfl rfl) rfl ?_
 refine JO_q (QE_ext rfl rfl) rfl ?_
 refine JO_q (QE_as rfl) rfl ?_
 refine JO_q (QE_as rfl) rfl ?_
 refine JO_q (QE_as rfl) rfl ?_
 refine JO_nil ?_
 refine thenQ_n ?_
 refine JC_ret ?_
 refine retQ_mk [] L (.inr rfl) (.tmp rfl (.tmp rfl (.tmp rfl (.nil)))) rfl h1 (fun sR hS2 => ?_)
 exact ⟨rfl, rfl⟩
set_option maxHeartbeats 1000000 in
set_option maxRecDepth 100000 in
theorem asplit_ac (D : Nat) (L : Hl) (s : World) (l : List UInt8) (c : UInt8) (hl : l.length ≤ 4000000) : AC Tryz.prog D 72 [St l, St [c]] L s fun v L' s' => L = L' ∧ ∃ A n c', v = .slice A n c' ∧ Strs s' A n c' (splitB (c.toNat : Int) l) := by
 refine AC_enter (TT := TT) (fn := Tryz.f72) TT_ok Tryz.func72 (by kernel_rfl) rfl Tryz.ntmps72 rfl (rs := [.tmp 4]) rfl [(0, _), (1, _)] rfl ?_
 refine JC_seq ?_
 refine JC_region ?_
 refine JO_q (QE_as rfl) rfl ?_
 refine JO_nil ?_
 refine thenQ_n ?_
 refine JC_seq ?_
 refine JC_region ?_
 refine JO_q (QE_mv rfl) rfl ?_
 refine JO_q (QE_mv rfl) rfl ?_
 refine JO_call (first := []) (captured := []) rfl rfl rfl (genSplit_ac D _ _ _ _ hl) ?_
 rintro _ _ s1 h1 ⟨rfl, Ar, nr, cr, rfl, hr⟩
 refine JO_q (QE_as rfl) rfl ?_
 refine JO_nil ?_
 refine thenQ_n ?_
 refine JC_ret ?_
 refine retQ_mk [] L (.inr rfl) (.tmp rfl (.nil)) rfl h1 (fun sR hS2 => ?_)
 exact ⟨rfl, _, _, _, rfl, hr.le (Le.trans (Le.refl (D := D) _) hS2)⟩
end Go.Proofs.YteomcjpigoaioaaGreatDoor
namespace Go.FL
open Go Go.RowKit
theorem QE_slA {P : Program} {TT : TyTab} {D : Nat} {fr : Fr} {ty : Nat} {K : Hl} {s0 : World} {t e b m : Nat} {x y : Operand} {ti te : TI} {ik : IntKind} {j : Nat} (hx : lk fr x = some (.pointer (some ⟨b, 0, none⟩))) (hy : lk fr y = some (.int ik (j : Int))) (ht : tlook TT t = some ti) (hk : ti.kind = .ar m e) (he : tlook TT e = some te) (hj : j ≤ m) :
    QE P TT D fr (.slice t x none (some y) none) ty K s0 (.slice (some ⟨b, 0, none⟩) j m) :=
  QE.pure fun hT dst pos af g ρ hρ w => by
    have hb : (Instr.sliceBounds false m m none (some (.int ik (j : Int))) none).run P w = .ok (0, j, m) w := by simp [Instr.sliceBounds, bound_ok hj]
    have hu : P.underlying t = some (.array m e) := by
      obtain ⟨h1, h2, _⟩ := hT.at_ ht
      rw [hk] at h2
      rw [h1]
      exact congrArg some h2
    have hr : (Instr.sliceAt t (.pointer (some ⟨b, 0, none⟩)) none (some (.int ik (j : Int))) none).run P w = .ok (.slice (some ⟨b, 0, none⟩) j m) w := by
      simp [Instr.sliceAt, Instr.sureAddr, run_underlying hu, hb, run_sizeOf' (hT.at_ he), Addr.add]
    simp only [execOp, hρ x _ hx, Option.map_none, Option.map_some, hρ y _ hy, Sem.run_bind, hr, Result.andThen_ok, Sem.run_pure]
theorem fill_drewN (L : Hl) (s : World) (n : Nat) : (fill L s).drewN n = fill L (s.drewN n) := by
  induction L with
  | nil => rfl
  | cons x L ih => show setBlk ((fill L s).drewN n) x.1 x.2 = setBlk (fill L (s.drewN n)) x.1 x.2; rw [ih]
theorem Le.drewN {D : Nat} (s : World) (n : Nat) : Le D s (s.drewN n) := ⟨rfl, rfl, rfl, Nat.le_refl _, fun _ _ => .inr rfl⟩
theorem mapBlock_set (w : World) (b ty : Nat) (zs : List Value) (f : Array Value → Array Value) : Sort.mapBlock (setBlk w b (cb zs ty)) b f = setBlk w b (cb (f zs.toArray).toList ty) := by
  refine world_eq (heap_ext fun k => ?_) rfl rfl rfl rfl
  show ((w.heap.setIfInBounds b _).modify b _)[k]? = (w.heap.setIfInBounds b _)[k]?
  rw [Array.getElem?_modify]
  by_cases hk : b = k
  · subst hk
    rw [if_pos rfl, Array.getElem?_setIfInBounds_self, Array.getElem?_setIfInBounds_self]
    split
    · simp [Sort.onCells, cb]
    · rfl
  · rw [if_neg hk, Array.getElem?_setIfInBounds_ne hk, Array.getElem?_setIfInBounds_ne hk]
end Go.FL
namespace Go.Proofs.YteomcjpigoaioaaGreatDoor
open Go Go.FL Go.RowKit
section
variable (D : Nat) (L : Hl) (s : World)
theorem fnok_small : FnOK Tryz.prog 125 := ⟨_, Tryz.func125, by kernel_rfl, by kernel_rfl⟩
theorem fnok_nd : FnOK Tryz.prog 126 := ⟨_, Tryz.func126, by kernel_rfl, by kernel_rfl⟩
theorem fnok_fmt : FnOK Tryz.prog 127 := ⟨_, Tryz.func127, by kernel_rfl, by kernel_rfl⟩
theorem small_ac (u : Nat) (h : u < 100) : AC Tryz.prog D 125 [.int .i64 (u : Int)] L s fun v L' _ => v = St (Lib.decDigits u) ∧ L = L' :=
  AC.of_calls fnok_small fun _ => (Any.internal_strconv_small Tryz.lays283 u h (fill L s)).mono fun e w' ⟨he, hw⟩ => ⟨_, he, by rw [hw]; exact below_refl _, fun s' _ _ _ => ⟨rfl, rfl⟩⟩
theorem nd_ac (hG : GW s) (u : Nat) (h1 : 1 ≤ u) (h2 : u < 4294967296) : AC Tryz.prog D 126 [.int .u64 (u : Int)] L s fun v L' _ => v = .int .i64 (Lib.nDigits u : Int) ∧ L = L' :=
  AC.of_calls fnok_nd fun ho => (Any.internal_strconv_numDigits Tryz.laysM284 u h1 (by omega) (fill L s) (tab_of Tryz.laysM284.m17 (hG.le (fill_le ho)))).mono fun e w' ⟨he, hw⟩ => ⟨_, he, by rw [hw]; exact below_refl _, fun s' _ _ _ => ⟨rfl, rfl⟩⟩
theorem nd_le {u : Nat} (h : u < 4294967296) : Lib.nDigits u ≤ 20 := by
  by_cases h1 : 1 ≤ u
  · have := Lib.numDigits_eq u h1 (by omega); split at this <;> omega
  · obtain rfl : u = 0 := by omega
    rw [Lib.nDigits]; simp
def z24 : List Value := List.replicate 24 (.int .u8 0)
theorem format_ac (u : Nat) (h2 : u < 4294967296) (b ty : Nat) : AC Tryz.prog D 127 [.slice (some ⟨b, 0, none⟩) (Lib.nDigits u) 24, .int .u64 (u : Int)] ((b, cb z24 ty) :: L) s
    fun v L' _ => v = .tuple #[] ∧ ∃ ys, L' = (b, cb (bv (Lib.decDigits u) ++ ys) ty) :: L ∧ (Lib.decDigits u).length + ys.length = 24 := by
  refine ⟨fnok_fmt, fun ho => ?_⟩
  have hnd := nd_le h2
  have hblk : (fill ((b, cb z24 ty) :: L) s).heap[b]? = some (cb z24 ty) := fill_mem ho (List.mem_cons_self ..)
  have hH : Sort.Holds (fun (x : UInt8) => Value.int .u8 (x.toNat : Int)) (fill ((b, cb z24 ty) :: L) s) b 0 (Array.replicate (Lib.nDigits u) (0 : UInt8)) := by
    intro j hj
    have hj' : j < Lib.nDigits u := by simpa using hj
    refine ⟨?_, by unfold World.frozen?; rw [hblk]; simp [cb]⟩
    rw [Nat.zero_add, mem_cell ho (List.mem_cons_self ..), getElem!_pos _ j hj, z24, List.getElem?_replicate, if_pos (by omega)]
    simp
  have h := Any.internal_strconv_formatBase10 Tryz.lays285 b 0 24 u (Array.replicate (Lib.nDigits u) 0) _ hH (by rw [Array.size_replicate]; exact Lib.lt_pow_nDigits u) (by omega) (by rw [Array.size_replicate]; omega)
  rw [Array.size_replicate] at h
  refine h.mono ?_
  rintro e w' ⟨he, n, v', dk, hw, hF⟩
  have hsz : dk.size = Lib.nDigits u := hF.size
  have hlen : (Lib.decDigits u).length = Lib.nDigits u := Lib.decDigits_length u
  have hcells : (Sort.putCells (fun (x : UInt8) => Value.int .u8 (x.toNat : Int)) 0 dk z24.toArray).toList = bv (Lib.decDigits u) ++ List.replicate (24 - Lib.nDigits u) (.int .u8 0) := by
    apply List.ext_getElem?
    intro k
    simp only [Sort.putCells, Array.toList_mapIdx, List.getElem?_mapIdx, Nat.zero_le, true_and, Nat.zero_add, Nat.sub_zero]
    by_cases hk : k < Lib.nDigits u
    · rw [List.getElem?_append_left (by simp [bv]; omega)]
      have h24 : z24[k]? = some (.int .u8 0) := by rw [z24, List.getElem?_replicate, if_pos (by omega)]
      rw [h24]
      simp only [Option.map_some, hsz, hk, if_true, bv, List.getElem?_map]
      rw [List.getElem?_eq_getElem (by omega), ← Lib.row_is_numeral hF k (by omega)]
      rfl
    · rw [List.getElem?_append_right (by simp [bv]; omega)]
      have hk' : ¬ k < dk.size := by omega
      have hbl : (bv (Lib.decDigits u)).length = Lib.nDigits u := by simp [bv, hlen]
      rw [hbl]
      by_cases h24 : k < 24
      · have e1 : z24[k]? = some (.int .u8 0) := by rw [z24, List.getElem?_replicate, if_pos (by omega)]
        rw [e1]
        simp [hk', List.getElem?_replicate]
        omega
      · have e1 : z24[k]? = none := by simp [z24]; omega
        rw [e1]
        simp [List.getElem?_replicate]
        omega
  have hworld : w' = fill ((b, cb (bv (Lib.decDigits u) ++ List.replicate (24 - Lib.nDigits u) (.int .u8 0)) ty) :: L) (s.drewN n) := by
    rw [hw, Sort.putRow]
    show (Sort.mapBlock (setBlk (fill L s) b (cb z24 ty)) b _).drewN n = _
    rw [mapBlock_set, hcells]
    exact fill_drewN ((b, cb (bv (Lib.decDigits u) ++ List.replicate (24 - Lib.nDigits u) (.int .u8 0)) ty) :: L) s n
  exact ⟨_, _, _, he, hworld, ⟨ho.nd, fun x hx => by
    rcases List.mem_cons.1 hx with rfl | hx
    · exact ho.dm (b, cb z24 ty) (List.mem_cons_self ..)
    · exact ho.dm x (List.mem_cons_of_mem _ hx)⟩, Le.drewN s n, rfl, _, rfl, by simp; omega⟩
end
end Go.Proofs.YteomcjpigoaioaaGreatDoor
namespace Go.Proofs.YteomcjpigoaioaaGreatDoor
open Go Go.FL
def valD (acc : Nat) (l : List UInt8) : Nat := l.foldl (fun a c => a * 10 + (c.toNat - 48)) acc
def canonB (l : List UInt8) : Bool := decide (l ≠ []) && l.all digB && (decide (l.length ≤ 1) || decide (l.head? ≠ some 48))
def numL (l : List UInt8) : Option Nat := if canonB l = true ∧ valD 0 l < 4294967296 then some (valD 0 l) else none
theorem valD_nil (acc : Nat) : valD acc [] = acc := rfl
theorem valD_cons (acc : Nat) (c : UInt8) (r : List UInt8) : valD acc (c :: r) = valD (acc * 10 + (c.toNat - 48)) r := by unfold valD; rw [List.foldl_cons]
theorem valD_one (c : UInt8) : valD 0 [c] = c.toNat - 48 := by rw [valD_cons, valD_nil, Nat.zero_mul, Nat.zero_add]
attribute [local irreducible] valD
theorem valD_snoc (l : List UInt8) (c : UInt8) (acc : Nat) : valD acc (l ++ [c]) = valD acc l * 10 + (c.toNat - 48) := by
  induction l generalizing acc with
  | nil => rw [List.nil_append, valD_cons, valD_nil, valD_nil]
  | cons x l ih => rw [List.cons_append, valD_cons, valD_cons]; exact ih _
theorem valD_ge (l : List UInt8) (acc : Nat) : acc ≤ valD acc l := by
  induction l generalizing acc with
  | nil => rw [valD_nil]; exact Nat.le_refl _
  | cons x l ih => have := ih (acc * 10 + (x.toNat - 48)); rw [valD_cons]; omega
theorem parseM_of {M acc : Nat} {l : List UInt8} (hM : M < 1844674407370955162) (h : l.all digB = true) (hv : valD acc l ≤ M) : Lib.parseUintM M acc l = .ok (valD acc l) := by
  induction l generalizing acc with
  | nil => rw [valD_nil]; rfl
  | cons c l ih =>
    simp only [List.all_cons, Bool.and_eq_true, digB, decide_eq_true_eq] at h
    rw [valD_cons] at hv ⊢
    have h1 := valD_ge l (acc * 10 + (c.toNat - 48))
    simp only [Lib.parseUintM]
    rw [if_pos h.1, if_neg (by omega), if_neg (by omega)]
    exact ih (by simpa [digB] using h.2) hv
theorem dig_of {u : Nat} (h : u < 10) : (UInt8.ofNat (48 + u)).toNat = 48 + u := by simp; omega
theorem dec_val (u : Nat) : valD 0 (Lib.decDigits u) = u := by
  induction u using Nat.strongRecOn with
  | _ u ih =>
    by_cases h : u < 10
    · rw [Lib.decDigits, dif_pos h]; rw [valD_one, dig_of h]; omega
    · rw [Lib.decDigits, dif_neg h, valD_snoc, ih (u / 10) (by omega), dig_of (by omega)]; omega
theorem dec_ne (u : Nat) : Lib.decDigits u ≠ [] := by
  by_cases h : u < 10
  · rw [Lib.decDigits, dif_pos h]; simp
  · rw [Lib.decDigits, dif_neg h]; simp
theorem dec_dig (u : Nat) : (Lib.decDigits u).all digB = true := by
  induction u using Nat.strongRecOn with
  | _ u ih =>
    by_cases h : u < 10
    · rw [Lib.decDigits, dif_pos h]; simp only [List.all_cons, List.all_nil, Bool.and_true, digB, dig_of h, Bool.and_eq_true, decide_eq_true_eq]; omega
    · rw [Lib.decDigits, dif_neg h, List.all_append, ih (u / 10) (by omega)]
      simp only [List.all_cons, List.all_nil, Bool.and_true, digB, dig_of (show u % 10 < 10 by omega), Bool.and_eq_true, decide_eq_true_eq, Bool.true_and]; omega
theorem dec_head (u : Nat) (h : 1 ≤ u) : (Lib.decDigits u).head? ≠ some 48 := by
  induction u using Nat.strongRecOn with
  | _ u ih =>
    by_cases h1 : u < 10
    · rw [Lib.decDigits, dif_pos h1]; intro e
      simp only [List.head?_cons, Option.some.injEq] at e
      have := congrArg UInt8.toNat e; rw [dig_of h1] at this; simp at this; omega
    · rw [Lib.decDigits, dif_neg h1]
      have hne := dec_ne (u / 10)
      have := ih (u / 10) (by omega) (by omega)
      cases hd : Lib.decDigits (u / 10) with
      | nil => exact absurd hd hne
      | cons x r => rw [hd] at this; simpa using this
theorem dec_canon (u : Nat) : canonB (Lib.decDigits u) = true := by
  simp only [canonB, dec_dig, dec_ne, ne_eq, not_false_eq_true, decide_true, Bool.true_and, Bool.or_eq_true, decide_eq_true_eq]
  by_cases h : u < 10
  · left; rw [Lib.decDigits, dif_pos h]; simp
  · right; exact dec_head u (by omega)
theorem valD_pos {l : List UInt8} {c : UInt8} {r : List UInt8} (he : l = c :: r) (hd : digB c = true) (h : c ≠ 48) : 1 ≤ valD 0 l := by
  subst he
  have h1 := valD_ge r (0 * 10 + (c.toNat - 48))
  simp only [digB, Bool.and_eq_true, decide_eq_true_eq] at hd
  have : c.toNat ≠ 48 := fun e => h (UInt8.toNat_inj.1 e)
  rw [valD_cons]; omega
theorem canon_dec {l : List UInt8} (h : canonB l = true) : Lib.decDigits (valD 0 l) = l := by
  induction hn : l.length using Nat.strongRecOn generalizing l with
  | _ n ih =>
    simp only [canonB, Bool.and_eq_true, decide_eq_true_eq, Bool.or_eq_true] at h
    obtain ⟨⟨h0, h1⟩, h2⟩ := h
    obtain ⟨m, c, rfl⟩ : ∃ m c, l = m ++ [c] := ⟨l.dropLast, l.getLast h0, (List.dropLast_concat_getLast h0).symm⟩
    rw [List.all_append, Bool.and_eq_true] at h1
    have hc : 48 ≤ c.toNat ∧ c.toNat ≤ 57 := by simpa [digB] using h1.2
    have hcc : UInt8.ofNat (48 + (c.toNat - 48)) = c := by apply UInt8.toNat_inj.1; simp; omega
    rw [valD_snoc]
    cases hm : m with
    | nil => rw [valD_nil, Lib.decDigits, dif_pos (by omega)]; simp [hcc]
    | cons x r =>
      have hx : (m ++ [c]).head? = some x := by rw [hm]; rfl
      have hx48 : x ≠ 48 := by
        rcases h2 with h2 | h2
        · rw [hm] at h2; simp at h2
        · intro e; exact h2 (by rw [hx, e])
      have hdx : digB x = true := by have := h1.1; rw [hm, List.all_cons, Bool.and_eq_true] at this; exact this.1
      have hp := valD_pos hm hdx hx48
      have hcm : canonB m = true := by
        simp only [canonB, Bool.and_eq_true, decide_eq_true_eq, Bool.or_eq_true]
        refine ⟨⟨by rw [hm]; simp, h1.1⟩, .inr ?_⟩
        rw [hm]; simpa using hx48
      have hd := ih m.length (by rw [← hn]; simp) hcm rfl
      rw [← hm]
      rw [Lib.decDigits, dif_neg (by omega)]
      rw [show (valD 0 m * 10 + (c.toNat - 48)) / 10 = valD 0 m by omega, hd, show (valD 0 m * 10 + (c.toNat - 48)) % 10 = c.toNat - 48 by omega, hcc]
theorem numL_dec {u : Nat} (h : u < 4294967296) : numL (Lib.decDigits u) = some u := by rw [numL, if_pos ⟨dec_canon u, by rw [dec_val]; exact h⟩, dec_val]
theorem numL_some {l : List UInt8} {u : Nat} (h : numL l = some u) : l = Lib.decDigits u ∧ u < 4294967296 := by
  unfold numL at h
  split at h
  · rename_i hh; injection h with h; subst h; exact ⟨(canon_dec hh.1).symm, hh.2⟩
  · cases h
theorem parse_num (l : List UInt8) (u : Nat) : (Lib.parseUintB 32 l = .ok u ∧ Lib.decDigits u = l) ↔ numL l = some u := by
  constructor
  · rintro ⟨h, rfl⟩
    exact numL_dec (by have := Lib.parseUintB_le h; omega)
  · intro h
    obtain ⟨rfl, hu⟩ := numL_some h
    refine ⟨?_, rfl⟩
    rw [Lib.parseUintB, if_neg (dec_ne u)]
    have := parseM_of (M := 2 ^ 32 - 1) (acc := 0) (by decide) (dec_dig u) (by rw [dec_val]; omega)
    rw [dec_val] at this; exact this
theorem nDig_le (k u : Nat) (h : u < 10 ^ (k + 1)) : Lib.nDigits u ≤ k + 1 := by
  induction k generalizing u with
  | zero => rw [Lib.nDigits_small (by simpa using h)]; exact Nat.le_refl _
  | succ k ih =>
    by_cases h1 : u < 10
    · rw [Lib.nDigits_small h1]; omega
    · rw [Lib.nDigits_big h1]; have := ih (u / 10) (by rw [Nat.pow_succ] at h; omega); omega
theorem dec_len {u : Nat} (h : u < 4294967296) : 1 ≤ (Lib.decDigits u).length ∧ (Lib.decDigits u).length ≤ 10 := by
  rw [Lib.decDigits_length]
  exact ⟨Lib.nDigits_pos u, nDig_le 9 u (by omega)⟩
end Go.Proofs.YteomcjpigoaioaaGreatDoor
namespace Go.FL
open Go Go.RowKit
section
variable {P : Program} {TT : TyTab} {D n : Nat} {Q : APost} {fr : Fr} {L : Hl} {s : World}
def MidF {γ : Type} (D : Nat) (s : World) (fr : Fr) (X : Hl) (H : γ → Hl) (I : γ → World → Prop) : Fr → Hl → World → Prop := fun fr' L' s' => ∃ g A, Le D s s' ∧ L'.Perm (A ++ (X ++ H g)) ∧ I g s' ∧ Keeps fr' fr
theorem MidF.mk {γ : Type} {X : Hl} {H : γ → Hl} {I : γ → World → Prop} {fr' : Fr} {L' : Hl} {s' : World} (g : γ) (A : Hl) (hl : Le D s s') (hK : Keeps fr' fr) (hp : L'.Perm (A ++ (X ++ H g))) (hI : I g s') : MidF D s fr X H I fr' L' s' := ⟨g, A, hl, hp, hI, hK⟩
theorem JC_cutF {γ : Type} {x y : Code} (X : Hl) {Y : Hl} (_hX : L = X ++ Y) (H : γ → Hl) (I : γ → World → Prop) (mono : ∀ g s s', I g s → Le D s s' → I g s') (h1 : JC P TT D n (thenQ (MidF D s fr X H I) Q) x fr L s)
    (h2 : ∀ g s', Le D s s' → I g s' → JC P TT D n Q y fr (X ++ H g) s') : JC P TT D n Q (.seq x y) fr L s := fun ht a hr ho =>
  wp_seq (wp_mono (h1 ht a hr ho) fun e a w ⟨fr', L', s', k1, k2, k3, k4⟩ => by
    cases e with
    | normal =>
      subst k3
      obtain ⟨g, A, j0, j2, j3, j1⟩ := k4
      rw [fill_perm j2 _ k2]
      obtain ⟨e, d1, d2⟩ := drop_own (k2.perm j2)
      rw [e]
      exact h2 g _ (j0.trans d2) (mono _ _ _ j3 d2) ht a (k1.sub j1) d1
    | _ => exact ⟨fr', L', s', k1, k2, k3, k4⟩)
end
end Go.FL
namespace Go.Proofs.YteomcjpigoaioaaGreatDoor
open Go Go.FL
theorem flat_at {css : List (List Value)} {sz : Nat} (hl : ∀ cs ∈ css, cs.length = sz) {j : Nat} {u : Value} (h : css.flatten[j]? = some u) : ∃ i cs r, css[i]? = some cs ∧ cs[r]? = some u ∧ j = i * sz + r := by
  induction css generalizing j with
  | nil => cases h
  | cons c m ih =>
    have hc := hl c (List.mem_cons_self ..)
    rw [List.flatten_cons] at h
    by_cases hj : j < c.length
    · rw [List.getElem?_append_left hj] at h
      exact ⟨0, c, j, rfl, h, by omega⟩
    · rw [List.getElem?_append_right (by omega)] at h
      obtain ⟨i, cs, r, h1, h2, h3⟩ := ih (fun x hx => hl x (List.mem_cons_of_mem _ hx)) h
      exact ⟨i + 1, cs, r, by simpa using h1, h2, by rw [Nat.succ_mul]; omega⟩
def acv (l : List Ac) : List Value := (l.map Ac.cs).flatten
theorem acv_app (l m : List Ac) : acv (l ++ m) = acv l ++ acv m := by simp [acv]
theorem acv_len (l : List Ac) : (acv l).length = l.length * 6 := by
  induction l with
  | nil => rfl
  | cons a r ih => simp only [acv, List.map_cons, List.flatten_cons, List.length_append, List.length_cons] at ih ⊢; rw [ih]; simp only [Ac.cs, List.length_cons, List.length_nil]; omega
theorem Acs.row {s : World} {A : Option Addr} {n c : Nat} {l : List Ac} (h : Acs s A n c l) : Row s A n 6 (acv l) := by
  refine ⟨by rw [acv_len, h.1], fun u hu => ?_, fun j u hj => ?_⟩
  · obtain ⟨cs, h1, h2⟩ := List.mem_flatten.1 hu
    obtain ⟨a, _, rfl⟩ := List.mem_map.1 h1
    simp only [Ac.cs, List.mem_cons, List.not_mem_nil, or_false] at h2
    rcases h2 with rfl | rfl | rfl | rfl | rfl | rfl <;> rfl
  · obtain ⟨i, cs, r, h1, h2, h3⟩ := flat_at (sz := 6) (fun cs hcs => by obtain ⟨a, _, rfl⟩ := List.mem_map.1 hcs; rfl) hj
    rw [List.getElem?_map] at h1
    cases ha : l[i]? with
    | none => simp [ha] at h1
    | some a =>
      simp [ha] at h1
      subst h1
      obtain ⟨b, off, cs, k1, k2, _, k3, _⟩ := h.2.2.2 i a ha
      subst k3
      refine ⟨b, off, k1, ?_⟩
      have := k2 r u h2
      rwa [Nat.add_assoc, ← h3] at this
theorem Own.acs {e : Nat} {A : Hl} {Ad : Option Addr} {n c : Nat} {l : List Ac} {s : World} (h : Own e 6 A (.slice Ad n c) n (acv l)) (hu : ∀ a ∈ l, U32 a.x.val ∧ U32 a.y.val) (hp : Pub A s) (hn : n = l.length) : Acs s Ad n c l := by
  refine Own.rows (css := l.map Ac.cs) h hp ?_ hn
  clear h hn
  induction l with
  | nil => exact .nil
  | cons a r ih => exact .cons ⟨rfl, rfl, hu a (List.mem_cons_self ..)⟩ (ih fun b hb => hu b (List.mem_cons_of_mem _ hb))
theorem Acs.u {s : World} {A : Option Addr} {n c : Nat} {l : List Ac} (h : Acs s A n c l) : ∀ a ∈ l, U32 a.x.val ∧ U32 a.y.val := fun a ha => by
  obtain ⟨i, hi⟩ := List.getElem?_of_mem ha
  obtain ⟨_, _, _, _, _, _, _, h5⟩ := h.2.2.2 i a hi
  exact h5
def Tms (s : World) (A : Option Addr) (n c : Nat) (l : List Tm) : Prop := Sl 2 (fun _ x cs => cs = [.int .i64 x.kind, .int .u32 x.val] ∧ U32 x.val) s A n c l
theorem Tms.le {D : Nat} {s s' : World} {A : Option Addr} {n c : Nat} {l : List Tm} (h : Tms s A n c l) (hl : Le D s s') : Tms s' A n c l := Sl.le (fun _ _ h => h) h hl
theorem Tms.at_ {s : World} {A : Option Addr} {n c k : Nat} {l : List Tm} (h : Tms s A n c l) (hk : k < n) : ∃ b off x, A = some ⟨b, off, none⟩ ∧ l[k]? = some x ∧ CellsAt s b (off + k * 2) [.int .i64 x.kind, .int .u32 x.val] ∧ U32 x.val := by
  have hl : k < l.length := by rw [← h.1]; exact hk
  obtain ⟨b, off, cs, h1, h2, _, rfl, h4⟩ := h.2.2.2 k l[k] (List.getElem?_eq_getElem hl)
  exact ⟨b, off, l[k], h1, List.getElem?_eq_getElem hl, h2, h4⟩
theorem tms1 {s : World} {b : Nat} {a c : Int} (h : CellsAt s b 0 [.int .i64 a, .int .u32 c]) (hc : U32 c) : Tms s (some ⟨b, 0, none⟩) 1 1 [⟨a, c⟩] := Sl.lit [[_, _]] h rfl (.cons ⟨rfl, rfl, hc⟩ .nil) 1 rfl (by omega)
theorem tms2 {s : World} {b : Nat} {a c d e : Int} (h : CellsAt s b 0 [.int .i64 a, .int .u32 c, .int .i64 d, .int .u32 e]) (hc : U32 c) (he : U32 e) : Tms s (some ⟨b, 0, none⟩) 2 2 [⟨a, c⟩, ⟨d, e⟩] := Sl.lit [[_, _], [_, _]] h rfl (.cons ⟨rfl, rfl, hc⟩ (.cons ⟨rfl, rfl, he⟩ .nil)) 2 rfl (by omega)
theorem acs1 {s : World} {b : Nat} {k0 t0 a0 b0 c0 d0 : Int} (h : CellsAt s b 0 [.int .i64 k0, .int .i64 t0, .int .i64 a0, .int .u32 b0, .int .i64 c0, .int .u32 d0]) (hu : (U32 b0 ∧ U32 d0)) : Acs s (some ⟨b, 0, none⟩) 1 1 [⟨k0, t0, ⟨a0, b0⟩, ⟨c0, d0⟩⟩] := Sl.lit [[_, _, _, _, _, _]] h rfl (.cons ⟨rfl, rfl, hu⟩ (.nil)) 1 rfl (by omega)
theorem acs2 {s : World} {b : Nat} {k0 t0 a0 b0 c0 d0 k1 t1 a1 b1 c1 d1 : Int} (h : CellsAt s b 0 [.int .i64 k0, .int .i64 t0, .int .i64 a0, .int .u32 b0, .int .i64 c0, .int .u32 d0, .int .i64 k1, .int .i64 t1, .int .i64 a1, .int .u32 b1, .int .i64 c1, .int .u32 d1]) (hu : (U32 b0 ∧ U32 d0) ∧ (U32 b1 ∧ U32 d1)) : Acs s (some ⟨b, 0, none⟩) 2 2 [⟨k0, t0, ⟨a0, b0⟩, ⟨c0, d0⟩⟩, ⟨k1, t1, ⟨a1, b1⟩, ⟨c1, d1⟩⟩] := Sl.lit [[_, _, _, _, _, _], [_, _, _, _, _, _]] h rfl (.cons ⟨rfl, rfl, hu.1⟩ (.cons ⟨rfl, rfl, hu.2⟩ (.nil))) 2 rfl (by omega)
theorem acs3 {s : World} {b : Nat} {k0 t0 a0 b0 c0 d0 k1 t1 a1 b1 c1 d1 k2 t2 a2 b2 c2 d2 : Int} (h : CellsAt s b 0 [.int .i64 k0, .int .i64 t0, .int .i64 a0, .int .u32 b0, .int .i64 c0, .int .u32 d0, .int .i64 k1, .int .i64 t1, .int .i64 a1, .int .u32 b1, .int .i64 c1, .int .u32 d1, .int .i64 k2, .int .i64 t2, .int .i64 a2, .int .u32 b2, .int .i64 c2, .int .u32 d2]) (hu : (U32 b0 ∧ U32 d0) ∧ (U32 b1 ∧ U32 d1) ∧ (U32 b2 ∧ U32 d2)) : Acs s (some ⟨b, 0, none⟩) 3 3 [⟨k0, t0, ⟨a0, b0⟩, ⟨c0, d0⟩⟩, ⟨k1, t1, ⟨a1, b1⟩, ⟨c1, d1⟩⟩, ⟨k2, t2, ⟨a2, b2⟩, ⟨c2, d2⟩⟩] := Sl.lit [[_, _, _, _, _, _], [_, _, _, _, _, _], [_, _, _, _, _, _]] h rfl (.cons ⟨rfl, rfl, hu.1⟩ (.cons ⟨rfl, rfl, hu.2.1⟩ (.cons ⟨rfl, rfl, hu.2.2⟩ (.nil)))) 3 rfl (by omega)
theorem acs6 {s : World} {b : Nat} {k0 t0 a0 b0 c0 d0 k1 t1 a1 b1 c1 d1 k2 t2 a2 b2 c2 d2 k3 t3 a3 b3 c3 d3 k4 t4 a4 b4 c4 d4 k5 t5 a5 b5 c5 d5 : Int} (h : CellsAt s b 0 [.int .i64 k0, .int .i64 t0, .int .i64 a0, .int .u32 b0, .int .i64 c0, .int .u32 d0, .int .i64 k1, .int .i64 t1, .int .i64 a1, .int .u32 b1, .int .i64 c1, .int .u32 d1, .int .i64 k2, .int .i64 t2, .int .i64 a2, .int .u32 b2, .int .i64 c2, .int .u32 d2, .int .i64 k3, .int .i64 t3, .int .i64 a3, .int .u32 b3, .int .i64 c3, .int .u32 d3, .int .i64 k4, .int .i64 t4, .int .i64 a4, .int .u32 b4, .int .i64 c4, .int .u32 d4, .int .i64 k5, .int .i64 t5, .int .i64 a5, .int .u32 b5, .int .i64 c5, .int .u32 d5]) (hu : (U32 b0 ∧ U32 d0) ∧ (U32 b1 ∧ U32 d1) ∧ (U32 b2 ∧ U32 d2) ∧ (U32 b3 ∧ U32 d3) ∧ (U32 b4 ∧ U32 d4) ∧ (U32 b5 ∧ U32 d5)) : Acs s (some ⟨b, 0, none⟩) 6 6 [⟨k0, t0, ⟨a0, b0⟩, ⟨c0, d0⟩⟩, ⟨k1, t1, ⟨a1, b1⟩, ⟨c1, d1⟩⟩, ⟨k2, t2, ⟨a2, b2⟩, ⟨c2, d2⟩⟩, ⟨k3, t3, ⟨a3, b3⟩, ⟨c3, d3⟩⟩, ⟨k4, t4, ⟨a4, b4⟩, ⟨c4, d4⟩⟩, ⟨k5, t5, ⟨a5, b5⟩, ⟨c5, d5⟩⟩] := Sl.lit [[_, _, _, _, _, _], [_, _, _, _, _, _], [_, _, _, _, _, _], [_, _, _, _, _, _], [_, _, _, _, _, _], [_, _, _, _, _, _]] h rfl (.cons ⟨rfl, rfl, hu.1⟩ (.cons ⟨rfl, rfl, hu.2.1⟩ (.cons ⟨rfl, rfl, hu.2.2.1⟩ (.cons ⟨rfl, rfl, hu.2.2.2.1⟩ (.cons ⟨rfl, rfl, hu.2.2.2.2.1⟩ (.cons ⟨rfl, rfl, hu.2.2.2.2.2⟩ (.nil))))))) 6 rfl (by omega)
theorem tms0 (s : World) : Tms s none 0 0 [] := ⟨rfl, Nat.le_refl _, by omega, fun i x h => by cases h⟩
end Go.Proofs.YteomcjpigoaioaaGreatDoor
namespace Go.FL
open Go Go.RowKit
def JE (P : Program) (TT : TyTab) (D n : Nat) (ops : Array Oper) (Q : Exit → Act → World → Prop) (i d : Nat) (fr : Fr) (L : Hl) (s : World) (R : Value → World → Prop) : Prop :=
  TabOK P TT → ∀ a, FrRel n a fr → OKL D L s → wpOp P ops Q i (fun a' w' => ∃ v s', a' = a.put (some d) v ∧ w' = fill L s' ∧ OKL D L s' ∧ Le D s s' ∧ R v s') a (fill L s)
section
variable {P : Program} {TT : TyTab} {D n : Nat} {ops : Array Oper} {Q' : Exit → Act → World → Prop} {fr : Fr} {L : Hl} {s s' : World} {d ty : Nat} {op : Op} {pos : String} {af : Array Edge} {v : Value} {i : Nat} {R : Value → World → Prop}
theorem JE_ev (hi : ops[i]? = some ⟨some d, op, ty, pos, af, none⟩) (h : Ev P TT D fr op ty L s (.value v) L s') (hle : Le D s s') (hR : R v s') : JE P TT D n ops Q' i d fr L s R := fun ht a hf ho => by
  obtain ⟨h1, h2⟩ := h ht ho (some d) pos af none a.eval (fun x v hx => hf.ev hx)
  simp only [wpOp, hi, Region.wanted, if_true]
  refine .inl ?_
  simp only [Oper.wp, h1, Oper.upon]
  exact ⟨v, s', rfl, rfl, h2, hle, hR⟩
theorem JE_q (hi : ops[i]? = some ⟨some d, op, ty, pos, af, none⟩) (h : QE P TT D fr op ty L s v) (hR : R v s) : JE P TT D n ops Q' i d fr L s R :=
  JE_ev hi (fun ht ho dst pos af g ρ hρ => ⟨h ht dst pos af g ρ hρ L s ho (Le.refl _) (fun _ hx => hx), ho⟩) (Le.refl _) hR
theorem JE_call {f : FuncId} {x : Operand} {xs : List Operand} {first captured vs : List Value} {ts : Array TypeId} {R0 : Value → Hl → World → Prop} (hi : ops[i]? = some ⟨some d, .call { callee := .value x, args := xs.toArray, argTypes := ts }, ty, pos, af, none⟩)
    (hx : lk fr x = some (.func (.func f) first.toArray captured.toArray)) (hv : lks fr xs = some vs) (h : AC P D f (first ++ vs ++ captured) L s R0)
    (k : ∀ v L' s', Le D s s' → R0 v L' s' → L' = L ∧ R v s') : JE P TT D n ops Q' i d fr L s R := fun hT a hf ho => by
  obtain ⟨⟨fn, h1, h2, h3⟩, hc⟩ := h
  have hρ : ∀ x v, lk fr x = some v → a.eval x = v := fun x v hx => hf.ev hx
  simp only [wpOp, hi, Region.wanted, if_true]
  refine .inl ?_
  have hrun : (execOp a.eval ⟨some d, .call { callee := .value x, args := xs.toArray, argTypes := ts }, ty, pos, af, none⟩).run P (fill L s) = .ok (.enter f (first ++ vs ++ captured).toArray) (fill L s) := by
    have h2' : ¬ fn.name = "runtime.NumGoroutine" := by simpa using h2
    have h3' : ¬ fn.body = none := by intro e; simp [e] at h3
    simp [execOp, resolve, Deferred.ofValue, invoke, callFunc, hρ x _ hx, lks_map hρ hv, h1, h2', h3']
  simp only [Oper.wp, hrun, Oper.upon]
  refine (hc ho).mono ?_
  rintro e w' ⟨v, L', s', rfl, rfl, h4, h5, h6⟩
  obtain ⟨rfl, k2⟩ := k v L' s' h5 h6
  exact ⟨v, s', rfl, rfl, h4, h5, k2⟩
theorem JE_bs {t e len : Nat} {ti te : TI} {ps : List (Nat × Operand)} (hi : ops[i]? = some ⟨some d, .buildSlice t len ps.toArray, ty, pos, af, none⟩) (vals : List (Nat × Value)) (vs : List Value) (ht : tlook TT t = some ti) (hk : ti.kind = .sl e) (he : tlook TT e = some te) (hv : lkp fr ps = some vals) (hsz : Nat.ble (len * te.size) 16777216 = true) (hpos : Nat.blt 0 len = true) (hp : vals.all (fun x => Nat.blt x.1 len) = true)
    (hb : bld (rowPl te.size 0 len) (List.replicate len te.zeros).flatten vals = some vs) (k : ∀ β s', Le D s s' → CellsAt s' β 0 vs → R (.slice (some ⟨β, 0, none⟩) len len) s') : JE P TT D n ops Q' i d fr L s R := fun hT a hr ho => by
  obtain ⟨h1, h2, h3⟩ := alloc_fill ho (cb vs e)
  obtain ⟨d1, d2, d3⟩ := drop_own (A := [(s.heap.size, cb vs e)]) (B := L) h2
  refine JE_ev (s' := fill [(s.heap.size, cb vs e)] (s.alloc (dum D))) hi (fun hT _ dst pos af g ρ hρ => ⟨?_, d2⟩) (h3.trans d3) (k _ _ (h3.trans d3) (cells_drop h2)) hT a hr ho
  rw [← d1]
  exact (Ev_bs vals vs ht hk he hv hsz hpos hp hb ho hT ho dst pos af g ρ hρ).1
end
def edgeB (l : List Oper) (i j : Nat) : Bool := match l[i]? with
  | some o => o.after.any fun e => Region.binds .any e && e.on == j
  | none => false
def dstB (l : List Oper) (ds : List Nat) (m : Nat) : Bool := (List.range m).all fun i => (match l[i]? with | some o => o.dst == ds[i]? && o.guard.isNone | none => false)
def topoB (l : List Oper) : Bool := (List.range l.length).all fun i => (match l[i]? with | some o => o.after.all fun e => !Region.binds .any e || decide (e.on < i) | none => true)
def coverB (l : List Oper) (m : Nat) : Bool := (List.range m).all fun j => (List.range (m + 1)).any fun i => decide (j < i) && edgeB l i j
def depB (l : List Oper) (dp : List (List Nat)) (m : Nat) : Bool := (List.range m).all fun i => (dp.getD i []).all fun j => decide (j < m) && edgeB l i j
def freshB (fr : Fr) (ds : List Nat) (n : Nat) : Bool := ds.all fun d => (flook fr d).isNone && Nat.blt d n
def Obl (Φ : Nat → Value → World → Prop) (ds : List Nat) (s : World) (K : Fr → Prop) : List Nat → Fr → Prop
  | [], fr => K fr
  | j :: r, fr => ∀ u, Φ j u s → Obl Φ ds s K r ((ds.getD j 0, u) :: fr)
inductive Fct where
  | eq (v : Value)
  | row (len : Nat) (vs : List Value)
def Fct.holds : Fct → Value → World → Prop
  | .eq u, v, _ => v = u
  | .row len vs, v, s => ∃ b, v = .slice (some ⟨b, 0, none⟩) len len ∧ CellsAt s b 0 vs
theorem Fct.le {D : Nat} (fs : List Fct) (i : Nat) (v : Value) (s s' : World) (h : (fs.getD i (.eq undef)).holds v s) (hl : Le D s s') : (fs.getD i (.eq undef)).holds v s' := by
  generalize fs.getD i (.eq undef) = f at h ⊢
  cases f with
  | eq u => exact h
  | row len vs => obtain ⟨b, h1, h2⟩ := h; exact ⟨b, h1, h2.le hl⟩
def AllLt (p : Nat → Prop) : Nat → Prop
  | 0 => True
  | m + 1 => AllLt p m ∧ p m
theorem AllLt.get {p : Nat → Prop} {m : Nat} (h : AllLt p m) : ∀ i, i < m → p i := by
  induction m with
  | zero => intro i hi; omega
  | succ m ih =>
    intro i hi
    rcases Nat.lt_succ_iff_lt_or_eq.1 hi with h1 | rfl
    · exact ih h.1 i h1
    · exact h.2
section
variable {P : Program} {TT : TyTab} {D n : Nat} {Q : APost} {fr : Fr} {L : Hl} {s : World}
theorem FrRel.more {a : Act} (hr : FrRel n a fr) {d : Nat} {u : Value} (h1 : d < n) (h2 : a.tmps[d]? = some u) : FrRel n a ((d, u) :: fr) := by
  refine ⟨hr.size, hr.defers, fun t ht v hv => ?_, fun t v hv => ?_⟩
  · rw [flook_cons] at hv
    split at hv
    · rename_i he; subst he; simp at hv; subst hv; exact h2
    · exact hr.slot t ht v hv
  · rw [flook_cons] at hv
    split at hv
    · rename_i he; subst he; exact h1
    · exact hr.top t v hv
theorem Obl.apply {Φ : Nat → Value → World → Prop} {ds : List Nat} {K : Fr → Prop} {a : Act} {js : List Nat} (hr : FrRel n a fr) (h : Obl Φ ds s K js fr) (hj : ∀ j ∈ js, ds.getD j 0 < n ∧ ∃ v, a.tmps[ds.getD j 0]? = some v ∧ Φ j v s) : ∃ fr', FrRel n a fr' ∧ K fr' := by
  induction js generalizing fr with
  | nil => exact ⟨fr, hr, h⟩
  | cons j r ih =>
    obtain ⟨h1, v, h2, h3⟩ := hj j (List.mem_cons_self ..)
    exact ih (hr.more h1 h2) (h v h3) fun x hx => hj x (List.mem_cons_of_mem _ hx)
theorem edge_spec {l : List Oper} {i j : Nat} (h : edgeB l i j = true) : ∃ o, l[i]? = some o ∧ ∃ e ∈ o.after, Region.binds .any e = true ∧ e.on = j := by
  unfold edgeB at h
  split at h
  · rename_i o ho
    rw [Array.any_eq_true] at h
    obtain ⟨k, hk, h1⟩ := h
    simp only [Bool.and_eq_true, beq_iff_eq] at h1
    exact ⟨o, ho, o.after[k], Array.getElem_mem hk, h1.1, h1.2⟩
  · cases h
theorem JC_flow {id : Nat} {l : List Oper} (hm : P.follows .mixedOrders = true) (m : Nat) (hN : l.length = m + 1) (ds : List Nat) (dp : List (List Nat)) (h1 : dstB l ds m = true) (h2 : topoB l = true) (h3 : coverB l m = true) (h4 : depB l dp m = true) (h5 : freshB fr ds n = true) (h6 : ds.Nodup) (h7 : ds.length = m)
    (Φ : Nat → Value → World → Prop) (mono : ∀ i v s s', Φ i v s → Le D s s' → Φ i v s')
    (obl0 : AllLt (fun i => ∀ s', Le D s s' → Obl Φ ds s' (fun fr' => JE P TT D n l.toArray (noPan (conc D n Q)) i (ds.getD i 0) fr' L s' (Φ i)) (dp.getD i []) fr) m)
    (lastd : List Nat) (h8 : lastd.all (fun j => decide (j < m)) = true) (last : ∀ s', Le D s s' → Obl Φ ds s' (fun fr' => JA P TT D n l.toArray Q [] s' 1 ((Array.replicate m true).push false) fr' L s') lastd fr) :
    JC P TT D n Q (.region id l.toArray true) fr L s := fun ht a0 hr0 ho0 => by
  have obl := obl0.get
  have key : ∀ (N : Nat) (todo : List Nat) (listed : Array Bool) (a : Act) (s' : World), todo.length = N → todo.Nodup → (∀ i, i ∈ todo ↔ i < m ∧ listed.getD i true = false) → listed.size = m + 1 → listed.getD m true = false →
      (∀ i o, l[i]? = some o → i < m → listed.getD i true = true → ∀ e ∈ o.after, Region.binds .any e = true → listed.getD e.on false = true) →
      FrRel n a fr → OKL D L s' → Le D s s' → (∀ i, i < m → listed.getD i true = true → ∃ v, a.tmps[ds.getD i 0]? = some v ∧ Φ i v s') → wpAny P .any l.toArray (noPan (conc D n Q)) (N + 1) listed a (fill L s') := by
    have hdlt : ∀ i, i < m → ds.getD i 0 < n ∧ flook fr (ds.getD i 0) = none := fun i hi => by
      have hmem : ds.getD i 0 ∈ ds := by simp [List.getD, show i < ds.length by omega]
      have := List.all_eq_true.1 h5 _ hmem
      simp only [Bool.and_eq_true, Option.isNone_iff_eq_none] at this
      exact ⟨Nat.le_of_ble_eq_true this.2, this.1⟩
    intro N
    induction N with
    | zero =>
      intro todo listed a s' hlen _ hmem hsz hlast hcl hfr ho hle hfact
      have hnil : todo = [] := List.eq_nil_of_length_eq_zero hlen
      subst hnil
      have hall : ∀ i, i < m → listed.getD i true = true := fun i hi => by
        cases hb : listed.getD i true with
        | true => rfl
        | false => exact absurd ((hmem i).2 ⟨hi, hb⟩) (by simp)
      have hl : listed = (Array.replicate m true).push false := by
        apply Array.ext
        · simp [hsz]
        · intro i hi hi'
          rw [Array.getElem_push]
          have hg : listed.getD i true = listed[i] := by simp [hi]
          split
          · rename_i hlt
            simp at hlt
            rw [Array.getElem_replicate, ← hg, hall i hlt]
          · rename_i hge
            simp at hge
            have : i = m := by omega
            subst this
            rw [← hg, hlast]
      subst hl
      obtain ⟨fr', hf', hJ⟩ := (last s' hle).apply hfr (a := a) (fun j hj => by
        have hj' : j < m := by simpa using List.all_eq_true.1 h8 j hj
        exact ⟨(hdlt j hj').1, hfact j hj' (hall j hj')⟩)
      exact wpAny_of_held _ _ _ _ (hJ ht a hf' ho (Le.refl _) (fun x hx => by cases hx))
    | succ N ih =>
      intro todo listed a s' hlen hnd hmem hsz hlast hcl hfr ho hle hfact
      refine ⟨fun hready => ?_, fun i hi => ?_⟩
      ·
        exfalso
        have hex : ∃ i, i < m ∧ listed.getD i true = false := by
          cases todo with
          | nil => simp at hlen
          | cons x r => exact ⟨x, (hmem x).1 (List.mem_cons_self ..)⟩
        have hleast : ∃ i, (i < m ∧ listed.getD i true = false) ∧ ∀ j, j < i → ¬ (j < m ∧ listed.getD j true = false) := by
          obtain ⟨i, hi⟩ := hex
          induction i using Nat.strongRecOn with
          | ind i ihi =>
            by_cases hx : ∃ j, j < i ∧ (j < m ∧ listed.getD j true = false)
            · obtain ⟨j, hj1, hj2⟩ := hx
              exact ihi j hj1 hj2
            · exact ⟨i, hi, fun j hj hj2 => hx ⟨j, hj, hj2⟩⟩
        obtain ⟨i, ⟨hi1, hi2⟩, hi3⟩ := hleast
        have hlt : i < l.length := by omega
        have hin : i ∈ Region.ready .any l.toArray listed := by
          rw [mem_ready]
          refine ⟨hi2, l[i], by simp [hlt], fun e he hb => ?_⟩
          have ht2 := List.all_eq_true.1 h2 i (List.mem_range.2 hlt)
          simp only [List.getElem?_eq_getElem hlt] at ht2
          rw [Array.all_eq_true_iff_forall_mem] at ht2
          have := ht2 e he
          simp only [hb, Bool.not_true, Bool.false_or, decide_eq_true_eq] at this
          have hn := hi3 e.on this
          have hm1 : e.on < m := by omega
          have h8 : listed.getD e.on true = true := by
            cases hc : listed.getD e.on true with
            | true => rfl
            | false => exact absurd ⟨hm1, hc⟩ hn
          have h9 : e.on < listed.size := by omega
          simp only [Array.getD, h9, dif_pos] at h8 ⊢
          exact h8
        rw [hready] at hin
        cases hin
      · have hi' := hi
        rw [mem_ready] at hi
        obtain ⟨hu, o, ho1, hall⟩ := hi
        have hol : l[i]? = some o := by simpa using ho1
        have hilen : i < l.length := (List.getElem?_eq_some_iff.1 hol).1
        have him : i ≠ m := by
          intro e
          subst e
          -- the greatest one that is not listed is ready's own forerunner
          have hmax : ∀ k, ∀ j, j < i → i - j ≤ k → listed.getD j true = true := by
            intro k
            induction k with
            | zero => intro j hj hk; omega
            | succ k ihk =>
              intro j hj hk
              have hcv := List.all_eq_true.1 h3 j (List.mem_range.2 hj)
              rw [List.any_eq_true] at hcv
              obtain ⟨i2, hi2, hc⟩ := hcv
              simp only [Bool.and_eq_true, decide_eq_true_eq] at hc
              obtain ⟨o2, ho2, e, he, hb, hon⟩ := edge_spec hc.2
              have hi2' := List.mem_range.1 hi2
              have hgot : listed.getD e.on false = true := by
                by_cases hlastone : i2 = i
                · subst hlastone
                  rw [hol] at ho2; injection ho2 with ho2; subst ho2
                  exact hall e he hb
                · exact hcl i2 o2 ho2 (by omega) (ihk i2 (by omega) (by omega)) e he hb
              rw [hon] at hgot
              have h9 : j < listed.size := by omega
              simp only [Array.getD, h9, dif_pos] at hgot ⊢
              exact hgot
          cases todo with
          | nil => simp at hlen
          | cons x r =>
            have hx := (hmem x).1 (List.mem_cons_self ..)
            have := hmax i x hx.1 (by omega)
            rw [hx.2] at this; cases this
        have hilt : i < m := by omega
        have hdeps : ∀ j ∈ dp.getD i [], j < m ∧ listed.getD j true = true := fun j hj => by
          have hd := List.all_eq_true.1 h4 i (List.mem_range.2 hilt)
          have hd2 := List.all_eq_true.1 hd j hj
          simp only [Bool.and_eq_true, decide_eq_true_eq] at hd2
          obtain ⟨o2, ho2, e, he, hb, hon⟩ := edge_spec hd2.2
          rw [hol] at ho2; injection ho2 with ho2; subst ho2
          have hgot := hall e he hb
          rw [hon] at hgot
          have h9 : j < listed.size := by omega
          simp only [Array.getD, h9, dif_pos] at hgot ⊢
          exact ⟨hd2.1, hgot⟩
        obtain ⟨fr', hf', hJ⟩ := (obl i hilt s' hle).apply hfr (a := a) (fun j hj => ⟨(hdlt j (hdeps j hj).1).1, hfact j (hdeps j hj).1 (hdeps j hj).2⟩)
        refine wpOp_mono ?_ (hJ ht a hf' ho)
        rintro a' w' ⟨v, s2, rfl, rfl, ho2, hle2, hΦ⟩
        have hdi := hdlt i hilt
        have hsz2 : a.tmps.size = n := hfr.size
        refine ih (todo.erase i) _ _ s2 (by rw [List.length_erase_of_mem ((hmem i).2 ⟨hilt, hu⟩)]; omega) (hnd.erase i) (fun j => ?_) (by simpa using hsz) ?_ ?_ ?_ ho2 (hle.trans hle2) ?_
        · rw [hnd.mem_erase_iff, hmem j]
          by_cases hj : j = i
          · subst hj; simp [show j < listed.size by omega]
          · rw [getD_set_ne true (fun e => hj e.symm)]; simp [hj]
        · rw [getD_set_ne true him]; exact hlast
        · intro j oj hoj hjm hlj e he hb
          by_cases hj : j = i
          · subst hj
            rw [hol] at hoj; injection hoj with hoj; subst hoj
            exact getD_set_true (hall e he hb)
          · rw [getD_set_ne true (fun e => hj e.symm)] at hlj
            exact getD_set_true (hcl j oj hoj hjm hlj e he hb)
        · refine ⟨by simp [Act.put, hsz2], by simp [Act.put, hfr.defers], fun t ht2 u hu2 => ?_, hfr.top⟩
          have hne : ds.getD i 0 ≠ t := by
            intro e; rw [e] at hdi; rw [hdi.2] at hu2; cases hu2
          simp only [Act.put, Array.getElem?_setIfInBounds_ne hne]
          exact hfr.slot t ht2 u hu2
        · intro j hjm hlj
          by_cases hj : j = i
          · subst hj
            refine ⟨v, ?_, hΦ⟩
            have hd1 := hdi.1
            generalize ds.getD j 0 = dd at hd1 ⊢
            simp [Act.put, hsz2, hd1]
          · rw [getD_set_ne true (fun e => hj e.symm)] at hlj
            obtain ⟨u, k1, k2⟩ := hfact j hjm hlj
            have hne : ds.getD i 0 ≠ ds.getD j 0 := by
              intro e
              simp only [List.getD, List.getElem?_eq_getElem (show i < ds.length by omega), List.getElem?_eq_getElem (show j < ds.length by omega), Option.getD_some] at e
              exact hj ((List.getElem_inj h6).1 e).symm
            exact ⟨u, by simp only [Act.put, Array.getElem?_setIfInBounds_ne hne]; exact k1, mono _ _ _ _ k2 hle2⟩
  have hstart := key m (List.range m) (Array.replicate (m + 1) false) a0 s.drew (by simp) List.nodup_range (fun i => ⟨fun h => ⟨List.mem_range.1 h, by have := List.mem_range.1 h; simp [show i < m + 1 by omega]⟩, fun h => List.mem_range.2 h.1⟩) (by simp) (by simp) (fun i o _ him hli => by simp [show i < m + 1 by omega] at hli) hr0 ho0.drew (Le.drew s) (fun i him hli => by simp [show i < m + 1 by omega] at hli)
  refine wp_mono (wp_region_any (Q := noPan (conc D n Q)) hm ?_) (fun e a w hq => by cases e <;> first | exact hq | exact hq.elim)
  rw [← drew_fill] at hstart
  simpa [hN] using hstart
end
end Go.FL
namespace Go.FL
open Go Go.RowKit
structure Apps (P : Program) (w : World) (t u ty e : Nat) (i : TypeInfo) (z : Value) (y : Value) (m : Nat) (news : List Value) : Prop where
  none : m = 0 → (Builtin.append_ #[t, u] ty #[.slice none 0 0, y]).run P w = .ok (.slice none 0 0) w
  nil : 0 < m → m ≤ 9223372036854775807 → m * i.bytes ≤ 140737488355328 → (Builtin.append_ #[t, u] ty #[.slice .none 0 0, y]).run P w = .ok (.slice (some ⟨w.heap.size, 0, .none⟩) m (grownCap w m 0 e)) (w.drew.alloc (.cells (news.toArray ++ Builtin.zeroCells z.cells (grownCap w m 0 e - m)) e))
  room : ∀ g sLen sCap (cur : Array Value), w.heap[g]? = some (.cells cur e (0, 0)) → sLen + m ≤ sCap → sLen * i.size + news.length ≤ cur.size → (Builtin.append_ #[t, u] ty #[.slice (some ⟨g, 0, .none⟩) sLen sCap, y]).run P w = .ok (.slice (some ⟨g, 0, .none⟩) (sLen + m) sCap) (w.setRow g (cur.toList.take (sLen * i.size) ++ news ++ cur.toList.drop (sLen * i.size + news.length)).toArray)
  grow : ∀ g n cap (xs : List Value), xs.length = n * i.size → (∀ j v, xs[j]? = some v → w.cell? ((⟨g, 0, .none⟩ : Addr).add j) = some v) → cap < n + m → n + m ≤ 9223372036854775807 → (n + m) * i.bytes ≤ 140737488355328 →
    (Builtin.append_ #[t, u] ty #[.slice (some ⟨g, 0, .none⟩) n cap, y]).run P w = .ok (.slice (some ⟨w.heap.size, 0, .none⟩) (n + m) (grownCap w (n + m) cap e)) (w.drew.alloc (.cells (xs.toArray ++ news.toArray ++ Builtin.zeroCells z.cells (grownCap w (n + m) cap e - (n + m))) e))
theorem run_appG {P : Program} {w : World} {t u ty e : Nat} {i : TypeInfo} {z y : Value} {m size bytes : Nat} {news : List Value} (hS : Apps P w t u ty e i z y m news) (hsize : i.size = size) (hby : i.bytes = bytes) (hzs : z.cells.size = size)
    (v : Value) (n : Nat) (xs : List Value) (hown : w.ownsRow 0 e size v n xs) (hl : news.length = m * size) (h63 : n + m ≤ maxLen) (hbytes : (n + m) * bytes ≤ 140737488355328) :
    ∃ v' w', (Builtin.append_ #[t, u] ty #[v, y]).run P w = .ok v' w' ∧ w'.ownsRow 0 e size v' (n + m) (xs ++ news) ∧ w.grownBy w' v.ownBlock ∧ (v'.ownBlock = v.ownBlock ∨ v'.ownBlock = some w.heap.size) ∧ (v = .slice none 0 0 → m = 0 → v' = .slice none 0 0) := by
  subst hsize
  subst hby
  have hsmall : n + m ≤ 9223372036854775807 := by simp only [maxLen] at h63; omega
  have hlen : (xs ++ news).length = (n + m) * i.size := by rw [List.length_append, hown.1, hl, Nat.add_mul]
  have grown : ∀ (old : Nat), old < n + m → ∀ (row : Option Nat),
      (w.drew.alloc (.cells (xs.toArray ++ news.toArray ++ Builtin.zeroCells z.cells (grownCap w (n + m) old e - (n + m))) e)).ownsRow 0 e i.size
        (.slice (some ⟨w.heap.size, 0, none⟩) (n + m) (grownCap w (n + m) old e)) (n + m) (xs ++ news) ∧
      w.grownBy (w.drew.alloc (.cells (xs.toArray ++ news.toArray ++ Builtin.zeroCells z.cells (grownCap w (n + m) old e - (n + m))) e)) row := by
    intro old ho row
    have hge := grownCap_ge w (n + m) old e
    have hcm : grownCap w (n + m) old e ≤ maxLen := grownCap_le_maxLen w (n + m) old e h63
    refine ⟨⟨hlen, .inr ⟨w.heap.size, _, _, rfl, Nat.zero_le _, heap_alloc_new w.drew _, hge, hcm, ?_, ?_⟩⟩, ⟨rfl, rfl, rfl, by simp, fun k hk _ => by show (w.heap.push _)[k]? = w.heap[k]?; rw [Array.getElem?_push, if_neg (Nat.ne_of_lt hk)]⟩⟩
    · simp only [Array.size_append, List.size_toArray, size_zeroCells, hzs, hown.1, hl, ← Nat.add_mul]
      congr 1
      omega
    · simp only [Array.toList_append, List.append_assoc]
      rw [← List.append_assoc, ← hlen]
      exact List.take_left
  rcases hown.2 with ⟨rfl, rfl⟩ | ⟨g, cap, cur, rfl, hbg, hg, hnc, hcm, hcs, htake⟩
  · have hx : xs = [] := List.eq_nil_of_length_eq_zero (by simpa using hown.1)
    subst hx
    by_cases hm : m = 0
    · have hn : news = [] := List.eq_nil_of_length_eq_zero (by rw [hl, hm]; simp)
      refine ⟨.slice none 0 0, w, hS.none hm, ?_, ⟨rfl, rfl, rfl, Nat.le_refl _, fun _ _ _ => rfl⟩, Or.inl rfl, fun _ _ => rfl⟩
      rw [hn, hm]; exact World.ownsRow_nil w 0 e i.size
    · have hr := hS.nil (by omega) (by omega) (by have hb := hbytes; simp only [Nat.zero_add] at hb; exact hb)
      have hgr := grown 0 (by omega) (Value.ownBlock (.slice none 0 0))
      simp only [Nat.zero_add, List.nil_append, Array.empty_append] at hgr ⊢
      exact ⟨_, _, hr, hgr.1, hgr.2, Or.inr rfl, fun _ h => absurd h hm⟩
  · by_cases hroom : n + m ≤ cap
    · have hfit : n * i.size + news.length ≤ cur.size := by rw [hl, hcs, ← Nat.add_mul]; exact Nat.mul_le_mul_right _ hroom
      have hr := hS.room g n cap cur hg hroom hfit
      refine ⟨_, _, hr, ⟨hlen, .inr ⟨g, cap, _, rfl, hbg, setRow_heap w g cur _ e _ hg, hroom, hcm, ?_, ?_⟩⟩, ⟨rfl, rfl, rfl, by simp, fun k _ hk => setRow_other w g k _ (fun e => hk (by simp [Value.ownBlock, e]))⟩, Or.inl rfl, fun h => by cases h⟩
      · simp only [List.size_toArray, List.length_append, List.length_take, List.length_drop, Array.length_toList]
        omega
      · rw [htake, ← hlen]
        exact List.take_left
    · have holds : ∀ j u, xs[j]? = some u → w.cell? ((⟨g, 0, none⟩ : Addr).add j) = some u := hown.cells (g := g) rfl
      have hr := hS.grow g n cap xs hown.1 holds (by omega) hsmall hbytes
      have hgr := grown cap (by omega) (Value.ownBlock (.slice (some ⟨g, 0, none⟩) n cap))
      exact ⟨_, _, hr, hgr.1, hgr.2, Or.inr rfl, fun h => by cases h⟩
section
variable {P : Program} {TT : TyTab} {D n : Nat} {Q : APost} {fr : Fr} {L L' K : Hl} {s s' s0 : World} {ops : Array Oper} {rest : List Oper} {d ty : Nat} {op : Op} {pos : String} {af : Array Edge} {v : Value}
theorem Ev_appG {t u e m k sz : Nat} {x y : Operand} {yv : Value} {ti te : TI} {news xs : List Value} (B A L0 : Hl) (hT : TabOK P TT) (hx : lk fr x = some v) (hy : lk fr y = some yv) (ht : tlook TT t = some ti) (hk : ti.kind = .sl e) (he : tlook TT e = some te) (hsz : te.size = sz)
    (hO : Own e sz A v k xs) (hl : news.length = m * sz) (hS : ∀ w i, P.underlying t = some (.slice e) → P.info? e = some i → i.size = te.size → i.bytes = te.bytes → i.zero = some te.zero → Apps P w t u ty e i te.zero yv m news) (h63 : (k + m) * te.bytes ≤ 140737488355328 ∧ k + m ≤ 9223372036854775807) (ho : OKL D (B ++ (A ++ L0)) s) :
    ∃ v' A' s', Ev P TT D fr (.call { callee := .builtin .append, args := #[x, y], argTypes := #[t, u] }) ty (B ++ (A ++ L0)) s (.value v') (B ++ (A' ++ L0)) s' ∧ Le D s s' ∧ Own e sz A' v' (k + m) (xs ++ news) ∧ (v = .slice none 0 0 → m = 0 → v' = .slice none 0 0) := by
  obtain ⟨k1, k2, _⟩ := hT.at_ ht
  rw [hk] at k2
  simp only [TK.fits] at k2
  rw [k2] at k1
  have hte := hT.at_ he
  obtain ⟨i, i1, i2, i3, i4⟩ := info_of hte
  have hzs : te.zero.cells.size = te.size := by rw [zero_cells hte]; simpa using hte.2.2.2.1
  have hin : ∀ x ∈ A, (fill (B ++ (A ++ L0)) s).heap[x.1]? = some x.2 := fun x hx => fill_mem ho (mem_mid.2 (.inr (.inl hx)))
  obtain ⟨v', w', hrun, hown', hgr, hat, hnl⟩ := run_appG (hS (fill (B ++ (A ++ L0)) s) i k1 i1 i2 i3 i4) (i2.trans hsz) i3 (by rw [hzs, hsz]) v k xs (hO.owns hin) hl (by simpa [maxLen] using h63.2) h63.1
  obtain ⟨A', hO', hA'⟩ := Own.of_owns hown'
  rw [fill_size] at hat
  obtain ⟨r1, r2, r3⟩ := of_row (D := D) ho hO hO' hA' hgr hat
  refine ⟨v', A', blank D (B ++ (A' ++ L0)) w', fun hT ho dst pos af g ρ hρ => ⟨?_, r2⟩, r3, hO', hnl⟩
  rw [← r1]
  simp only [execOp, resolve, invoke, builtin, Sem.run_bind, Sem.run_pure, Result.andThen_ok, List.map_toArray, List.map_cons, List.map_nil, hρ x _ hx, hρ y _ hy, hrun]
theorem JO_appG {t u e m k sz : Nat} {x y : Operand} {yv : Value} {ti te : TI} {news xs : List Value} (B A L0 : Hl) (hL : L = B ++ (A ++ L0)) (hx : lk fr x = some v) (hy : lk fr y = some yv) (ht : tlook TT t = some ti) (hk : ti.kind = .sl e) (he : tlook TT e = some te) (hsz : te.size = sz)
    (hO : Own e sz A v k xs) (hl : news.length = m * sz) (hS : TabOK P TT → ∀ w i, P.underlying t = some (.slice e) → P.info? e = some i → i.size = te.size → i.bytes = te.bytes → i.zero = some te.zero → Apps P w t u ty e i te.zero yv m news) (h63 : (k + m) * te.bytes ≤ 140737488355328 ∧ k + m ≤ 9223372036854775807) (hd : Nat.blt d n = true)
    (kk : ∀ v' A' s', Le D s s' → Own e sz A' v' (k + m) (xs ++ news) → (v = .slice none 0 0 → m = 0 → v' = .slice none 0 0) → JO P TT D n ops Q rest ((d, v') :: fr) (B ++ (A' ++ L0)) s') :
    JO P TT D n ops Q (⟨some d, .call { callee := .builtin .append, args := #[x, y], argTypes := #[t, u] }, ty, pos, af, none⟩ :: rest) fr L s := fun hT a hr ho => by
  subst hL
  obtain ⟨v', A', s', h1, h2, h3, h4⟩ := Ev_appG (ty := ty) B A L0 hT hx hy ht hk he hsz hO hl (hS hT) h63 ho
  exact JO_ev hd h1 (kk v' A' s' h2 h3 h4) hT a hr ho
theorem JB_appG {i0 t u e m k sz : Nat} {g : Option (Nat × Bool)} {fuel : Nat} {listed : Array Bool} {x y : Operand} {yv : Value} {ti te : TI} {news xs : List Value} (hi0 : ops[i0]? = some ⟨some d, .call { callee := .builtin .append, args := #[x, y], argTypes := #[t, u] }, ty, pos, af, g⟩) (hgk : GOK ops fr g)
    (B A L0 : Hl) (hL : L = B ++ (A ++ L0)) (hx : lk fr x = some v) (hy : lk fr y = some yv) (ht : tlook TT t = some ti) (hk : ti.kind = .sl e) (he : tlook TT e = some te) (hsz : te.size = sz)
    (hO : Own e sz A v k xs) (hl : news.length = m * sz) (hS : TabOK P TT → ∀ w i, P.underlying t = some (.slice e) → P.info? e = some i → i.size = te.size → i.bytes = te.bytes → i.zero = some te.zero → Apps P w t u ty e i te.zero yv m news) (h63 : (k + m) * te.bytes ≤ 140737488355328 ∧ k + m ≤ 9223372036854775807) (hd : Nat.blt d n = true) (hK : ∀ A', ∀ x ∈ K, x ∈ B ++ (A ++ L0) → x ∈ B ++ (A' ++ L0))
    (kk : ∀ v' A' s', Le D s s' → Own e sz A' v' (k + m) (xs ++ news) → JA P TT D n ops Q K s0 fuel (listed.setIfInBounds i0 true) ((d, v') :: fr) (B ++ (A' ++ L0)) s') :
    JB P TT D n ops Q K s0 fuel listed i0 fr L s := fun hT a hr ho hl0 hKL => by
  subst hL
  obtain ⟨v', A', s', h1, h2, h3, h4⟩ := Ev_appG (ty := ty) B A L0 hT hx hy ht hk he hsz hO hl (hS hT) h63 ho
  exact JB_ev hi0 hgk h1 h2 (hK A') hd (kk v' A' s' h2 h3) hT a hr ho hl0 hKL
end
theorem apps_str {P : Program} {w : World} {t u ty e : Nat} {i : TypeInfo} {z : Value} (l : List UInt8) (ht : P.underlying t = some (.slice e)) (hu : P.underlying u = some .string) (hi : P.info? e = some i) (hs : i.size = 1) (hb : i.bytes = 1) (hz : i.zero = some z) :
    Apps P w t u ty e i z (St l) l.length (l.map fun b => Value.int .u8 (b.toNat : Int)) := by
  have hsz : (⟨l.toArray⟩ : ByteArray).size = l.length := by simp [ByteArray.size]
  have hcs : Lib.strCells ⟨l.toArray⟩ = l.map fun b => Value.int .u8 (b.toNat : Int) := by simp [Lib.strCells]
  refine ⟨fun h0 => ?_, fun h1 h2 h3 => ?_, fun g sLen sCap cur hg hr hf => ?_, fun g n cap xs hl hc hcap h63 hby => ?_⟩
  · have hf := Lib.run_firstCells_string (P := P) w 1 ⟨l.toArray⟩
    have hl : l = [] := List.eq_nil_of_length_eq_zero h0
    subst hl
    simp [Builtin.append_, run_underlying ht, run_underlying hu, sizeOf, typeInfo, hi, hs, Builtin.lenOf, Builtin.firstCells, ByteArray.size]
  · have hr := run_append_nil_string (P := P) w t u ty e i z ht hu hi hz ⟨l.toArray⟩ (by rw [hsz]; exact h1) (by rw [hsz]; omega) (by rw [hsz]; exact Nat.le_trans h3 (by omega))
    rw [hsz] at hr
    have e1 : ((⟨l.toArray⟩ : ByteArray).data.map fun b => Value.int .u8 (b.toNat : Int)) = (l.map fun b => Value.int .u8 (b.toNat : Int)).toArray := by apply Array.ext'; simp
    rw [e1] at hr
    exact hr
  · have hr' := Lib.run_append_room_string (P := P) (ty := ty) w t u e i ht hu hi hs g sLen sCap cur hg ⟨l.toArray⟩ (by rw [hsz]; exact hr) (by rw [hsz]; simpa [hs] using hf)
    rw [hsz, hcs] at hr'
    rw [hs, Nat.mul_one, List.length_map]
    exact hr'
  · have hr := Lib.run_append_grow_string (P := P) (ty := ty) w t u e i z ht hu hi hz ⟨g, 0, none⟩ n cap xs hl hc ⟨l.toArray⟩ (by rw [hsz]; exact hcap) (by rw [hsz]; omega) (by rw [hsz]; exact growslice_fits hcap hby)
    rw [hsz, hcs] at hr
    exact hr
theorem apps_zero {P : Program} {w : World} {t u ty e : Nat} {i : TypeInfo} {z : Value} {ik : IntKind} (m : Nat) (ht : P.underlying t = some (.slice e)) (hu : P.underlying u = some (.int ik)) (hi : P.info? e = some i) (hs : i.size = 1) (hz : i.zero = some z) (hzc : z.cells = #[z]) (h1c : z.oneCell' = true) (hm : m ≤ 9223372036854775807) (hmb : (m : Int) * i.bytes ≤ 281474976710656) :
    Apps P w t u ty e i z (.int ik (m : Int)) m (List.replicate m z) := by
  have hw : IntKind.i64.wrap (m : Int) = (m : Int) := w64 (by omega) (by omega)
  have h0 : ¬ ((m : Int) < 0) := by omega
  have hmb' : ¬ (281474976710656 < (m : Int) * (i.bytes : Int)) := by omega
  have hzz : Builtin.zeroCells z.cells m = (List.replicate m z).toArray := by
    rw [hzc]; apply Array.ext'; simp only [Builtin.zeroCells]
    apply List.ext_getElem
    · simp
    · intro k h1 h2; simp [Nat.mod_one]
  have happ : ∀ w' : World, (if m * i.size = 0 then (pure #[] : Sem (Array Value)) else do pure (Builtin.zeroCells (← zeroValue e).cells m)).run P w' = .ok (List.replicate m z).toArray w' := fun w' => by
    by_cases hm0 : m = 0
    · subst hm0; simp
    · rw [if_neg (by rw [hs]; omega)]; simp [zeroValue, typeInfo, hi, hz, hzz]
  refine ⟨fun h0 => ?_, fun h1 h2 h3 => ?_, fun g sLen sCap cur hg hr hf => ?_, fun g n cap xs hl hc hcap h63 hby => ?_⟩
  · subst h0
    have hw0 : IntKind.i64.wrap 0 = 0 := hw
    simp [Builtin.append_, run_underlying ht, run_underlying hu, sizeOf, typeInfo, hi, hs, asInt, asIntOf, hw0]
  · have hn : ¬ (m = 0) := by omega
    have h63' : ¬ (9223372036854775807 < (m : Int)) := by omega
    have h48' : ¬ (281474976710656 < Builtin.nextslicecap m 0 * i.bytes) := by rw [nextslicecap_zero h1]; omega
    simp [Builtin.append_, run_underlying ht, run_underlying hu, sizeOf, typeInfo, zeroValue, hi, hz, hs, asInt, asIntOf, hw, h0, hmb', hn, h63', h48', Question.forced, newRow, grownCap, Builtin.firstCells, hzz]
  · have hst := run_storeCells_at P g sLen e (List.replicate m z) 0 cur w hg (by simpa [hs] using hf) (fun u hu => by rw [(List.mem_replicate.1 hu).2]; exact h1c)
    simp only [Nat.add_zero] at hst
    by_cases hm0 : m = 0
    · subst hm0
      have hw0 : IntKind.i64.wrap 0 = 0 := hw
      have hr0 : sLen ≤ sCap := hr
      simp at hst
      simp [Builtin.append_, run_underlying ht, run_underlying hu, sizeOf, typeInfo, zeroValue, hi, hz, hs, asInt, asIntOf, hw0, hr0, Addr.add_lit, hst]
    · simp [Builtin.append_, run_underlying ht, run_underlying hu, sizeOf, typeInfo, zeroValue, hi, hz, hs, asInt, asIntOf, hw, h0, hmb', hr, hm0, Addr.add_lit, hzz, hst]
  · have hn : ¬ (n + m ≤ cap) := by omega
    have h63' : ¬ (9223372036854775807 < ((n : Int) + (m : Int))) := by omega
    have hgs := growslice_fits hcap hby
    have h48' : ¬ (281474976710656 < Builtin.nextslicecap (n + m) cap * i.bytes) := by omega
    have hfo := run_firstCells_some (P := P) w.drew i.size n ⟨g, 0, none⟩ n cap xs hl (by simpa using hc)
    by_cases hm0 : m = 0
    · subst hm0
      rw [hs] at hfo
      have hw0 : IntKind.i64.wrap 0 = 0 := hw
      have hn0 : ¬ (n ≤ cap) := hn
      have h630 : ¬ (9223372036854775807 < (n : Int)) := by omega
      simp [Builtin.append_, run_underlying ht, run_underlying hu, sizeOf, typeInfo, zeroValue, hi, hz, hs, asInt, asIntOf, hw0, hn0, h630, Question.forced, newRow, grownCap, hfo]
      try exact fun h => absurd h h48'
    · rw [hs] at hfo
      simp [Builtin.append_, run_underlying ht, run_underlying hu, sizeOf, typeInfo, zeroValue, hi, hz, hs, asInt, asIntOf, hw, h0, hmb', hn, hm0, h63', h48', Question.forced, newRow, grownCap, hfo, hzz]
section
variable {P : Program} {TT : TyTab} {D n : Nat} {Q : APost} {fr : Fr} {L L' K : Hl} {s s' s0 : World} {ops : Array Oper} {rest : List Oper} {d ty : Nat} {op : Op} {pos : String} {af : Array Edge} {v : Value}
theorem QE_sadd {x y : Operand} {a b : List UInt8} {t t' : Nat} (hx : lk fr x = some (St a)) (hy : lk fr y = some (St b)) (h : a.length + b.length ≤ 9223372036854775807) : QE P TT D fr (.binOp .add t x y t') ty K s0 (St (a ++ b)) :=
  QE.pure fun _ dst pos af g ρ hρ w => by
    have h1 : ¬ (9223372036854775807 < ((a.length : Int) + (b.length : Int))) := by omega
    have e : (⟨a.toArray⟩ : ByteArray) ++ ⟨b.toArray⟩ = ⟨(a ++ b).toArray⟩ := by
      apply ByteArray.ext; simp
    simp [execOp, hρ x _ hx, hρ y _ hy, eqGuard, binOp, Op.stringOp, ByteArray.size, h1, e]
def EqNil (e : Value) (b : Bool) : Prop := (e = .nilIface ∧ b = true) ∨ ∃ u p, e = .iface u p ∧ b = false
theorem QE_inil {x : Operand} {e : Value} {b : Bool} {t t' : Nat} (hu : P.underlying t = some (.interface (P.methodsAt t))) (hx : lk fr x = some e) (hE : EqNil e b) : QE P TT D fr (.binOp .eql t x (.const .nilIface) t') ty K s0 (.bool b) :=
  QE.pure fun _ dst pos af g ρ hρ w => by
    have hc := hρ (.const .nilIface) _ rfl
    rcases hE with ⟨rfl, rfl⟩ | ⟨u, p, rfl, rfl⟩
    · simp [execOp, hρ x _ hx, hc, eqGuard_nil_constR, run_eql_nil_nil w t hu]
    · simp [execOp, hρ x _ hx, hc, eqGuard, run_eql_held_nil w t u p hu]
theorem s2b_world (ho : OKL D L s) (o : Obj) : (fill L s).drew.alloc o = fill L (fill [(s.heap.size, o)] (s.drew.alloc (dum D))) ∧ OKL D L (fill [(s.heap.size, o)] (s.drew.alloc (dum D))) ∧ Le D s (fill [(s.heap.size, o)] (s.drew.alloc (dum D))) := by
  obtain ⟨h1, h2, h3⟩ := alloc_fill ho.drew o
  obtain ⟨d1, d2, d3⟩ := drop_own (A := [(s.drew.heap.size, o)]) (B := L) h2
  rw [drew_fill, h1]
  exact ⟨d1, d2, (Le.drew s).trans (h3.trans d3)⟩
end
end Go.FL
namespace Go.FL
open Go Go.RowKit Go.Proofs.YteomcjpigoaioaaGreatDoor
section
variable {P : Program} {TT : TyTab} {D n : Nat} {Q : APost} {fr : Fr} {L L' K : Hl} {s s' s0 : World} {ops : Array Oper} {rest : List Oper} {d ty : Nat} {op : Op} {pos : String} {af : Array Edge} {v : Value}
theorem s2b_bts {e c : Nat} {l : List UInt8} (ho : OKL D L s) (fz : Nat × Nat) (hc : l.length ≤ c) (hc2 : c ≤ 9223372036854775807) : Bts (fill [(s.heap.size, Obj.cells (bytesRow ⟨l.toArray⟩ c) e fz)] (s.drew.alloc (dum D))) (some ⟨s.heap.size, 0, none⟩) l.length c l := by
  refine ⟨rfl, hc, hc2, fun i x hx => ⟨s.heap.size, 0, [.int .u8 (x.toNat : Int)], rfl, ?_, rfl, rfl⟩⟩
  refine CellsAt.one ?_
  have h1 : (fill [(s.heap.size, Obj.cells (bytesRow ⟨l.toArray⟩ c) e fz)] (s.drew.alloc (dum D))).heap[s.heap.size]? = some (Obj.cells (bytesRow ⟨l.toArray⟩ c) e fz) := by
    show (setBlk (s.drew.alloc (dum D)) s.heap.size _).heap[s.heap.size]? = _
    refine setBlk_same _ ?_
    show s.heap.size < (s.heap.push _).size
    simp
  obtain ⟨hi, rfl⟩ := List.getElem?_eq_some_iff.1 hx
  have h2 := bytesRow_at ⟨l.toArray⟩ c i (by simpa using hi)
  simp only [World.cell?, h1, Nat.zero_add, Nat.mul_one]
  simpa using h2
theorem JO_s2b {t t' e : Nat} {x : Operand} {l : List UInt8} {ti ti' te : TI} (hx : lk fr x = some (St l)) (ht : tlook TT t = some ti) (hk : ti.desc = .string) (ht' : tlook TT t' = some ti') (hk' : ti'.kind = .sl e) (he : tlook TT e = some te) (hke : te.desc = .int .u8) (hl : l.length ≤ 9223372036854775807) (hd : Nat.blt d n = true)
    (k : ∀ A c s', Le D s s' → Bts s' A l.length c l → JO P TT D n ops Q rest ((d, .slice A l.length c) :: fr) L s') :
    JO P TT D n ops Q (⟨some d, .convert t t' x, ty, pos, af, none⟩ :: rest) fr L s := fun hT a hr ho => by
  obtain ⟨k1, k2, _⟩ := hT.at_ ht'
  rw [hk'] at k2
  simp only [TK.fits] at k2
  rw [k2] at k1
  have u1 := (hT.at_ ht).1; rw [hk] at u1
  have u2 := (hT.at_ he).1; rw [hke] at u2
  have hsz : (⟨l.toArray⟩ : ByteArray).size = l.length := by simp [ByteArray.size]
  have hrun := run_bytes_of_string (P := P) (fill L s) t t' e ⟨l.toArray⟩ u1 k1 u2
  rw [hsz, fill_size] at hrun
  obtain ⟨w1, w2, w3⟩ := s2b_world ho (Obj.cells (bytesRow ⟨l.toArray⟩ (grownCap (fill L s) l.length 0 e)) e ((bytesRow ⟨l.toArray⟩ (grownCap (fill L s) l.length 0 e)).size, (bytesRow ⟨l.toArray⟩ (grownCap (fill L s) l.length 0 e)).size + 1))
  refine JO_ev (v := .slice (some ⟨s.heap.size, 0, none⟩) l.length (grownCap (fill L s) l.length 0 e)) hd (fun hT _ dst pos af g ρ hρ => ⟨?_, w2⟩) (k _ _ _ w3 (s2b_bts ho _ (grownCap_ge ..) (by have := grownCap_le_maxLen (fill L s) l.length 0 e (by simpa [maxLen] using hl); simpa [maxLen] using this))) hT a hr ho
  rw [← w1]
  simp only [execOp, hρ x _ hx, Sem.run_bind, hrun, Result.andThen_ok, Sem.run_pure]
end
end Go.FL
namespace Go.FL
open Go Go.RowKit
section
variable {P : Program} {TT : TyTab} {D n : Nat} {Q : APost} {fr : Fr} {L : Hl} {s : World}
inductive SufO (ks : List Nat) (fr : Fr) : Fr → Prop
  | refl : SufO ks fr fr
  | push {d : Nat} {v : Value} {fr' : Fr} (hd : ((flook fr d).isNone || ks.any (Nat.beq d)) = true) (h : SufO ks fr fr') : SufO ks fr ((d, v) :: fr')
theorem SufO.at_ {ks : List Nat} {fr fr' : Fr} (h : SufO ks fr fr') {t : Nat} {v : Value} (ht : ks.any (Nat.beq t) = false) (hv : flook fr t = some v) : flook fr' t = some v := by
  induction h with
  | refl => exact hv
  | @push d u fr' hd _ ih =>
    rw [flook_cons]
    by_cases he : d = t
    · subst he; rw [hv, ht] at hd; cases hd
    · rw [if_neg he]; exact ih
theorem flook_none {l : Fr} {t : Nat} (h : flook l t = none) : (l.map (·.1)).any (Nat.beq t) = false := by
  induction l with
  | nil => rfl
  | cons x l ih =>
    obtain ⟨d, v⟩ := x
    rw [flook_cons] at h
    by_cases he : d = t
    · rw [if_pos he] at h; cases h
    · rw [if_neg he] at h
      simp only [List.map_cons, List.any_cons, ih h, Bool.or_false]
      cases hb : Nat.beq t d with
      | false => rfl
      | true => exact absurd (Nat.eq_of_beq_eq_true hb).symm he
theorem keepsO {new fr fr' : Fr} (h1 : Keeps fr' new) (h2 : SufO (new.map (·.1)) fr fr') : Keeps fr' (new ++ fr) := by
  intro t v h
  rw [flook_append] at h
  cases hn : flook new t with
  | none => rw [hn] at h; exact h2.at_ (flook_none hn) h
  | some u => rw [hn] at h; exact h1 t v (by rw [hn]; exact h)
def MidG {γ : Type} (D : Nat) (s : World) (fr : Fr) (new : γ → Fr) (X : Hl) (H : γ → Hl) (I : γ → World → Prop) : Fr → Hl → World → Prop := fun fr' L' s' => ∃ g A, Le D s s' ∧ L'.Perm (A ++ (X ++ H g)) ∧ I g s' ∧ Keeps fr' (new g ++ fr)
theorem MidG.mk {γ : Type} {new : γ → Fr} {X : Hl} {H : γ → Hl} {I : γ → World → Prop} {fr' : Fr} {L' : Hl} {s' : World} (g : γ) (A : Hl) (hl : Le D s s') (hK : Keeps fr' (new g)) (hS : SufO ((new g).map (·.1)) fr fr') (hp : L'.Perm (A ++ (X ++ H g))) (hI : I g s') : MidG D s fr new X H I fr' L' s' := ⟨g, A, hl, hp, hI, keepsO hK hS⟩
theorem JC_cutG {γ : Type} {x y : Code} (new : γ → Fr) (X : Hl) {Y : Hl} (_hX : L = X ++ Y) (H : γ → Hl) (I : γ → World → Prop) (mono : ∀ g s s', I g s → Le D s s' → I g s') (h1 : JC P TT D n (thenQ (MidG D s fr new X H I) Q) x fr L s)
    (h2 : ∀ g s', Le D s s' → I g s' → JC P TT D n Q y (new g ++ fr) (X ++ H g) s') : JC P TT D n Q (.seq x y) fr L s := fun ht a hr ho =>
  wp_seq (wp_mono (h1 ht a hr ho) fun e a w ⟨fr', L', s', k1, k2, k3, k4⟩ => by
    cases e with
    | normal =>
      subst k3
      obtain ⟨g, A, j0, j2, j3, j1⟩ := k4
      rw [fill_perm j2 _ k2]
      obtain ⟨e, d1, d2⟩ := drop_own (k2.perm j2)
      rw [e]
      exact h2 g _ (j0.trans d2) (mono _ _ _ j3 d2) ht a (k1.sub j1) d1
    | _ => exact ⟨fr', L', s', k1, k2, k3, k4⟩)
end
end Go.FL
namespace Go.FL
open Go Go.RowKit
theorem ndec_eq {p q : Prop} [Decidable p] [Decidable q] (h : p ↔ ¬ q) : (!decide q) = decide p := by
  by_cases hq : q
  · have hp : ¬ p := fun x => (h.1 x) hq
    simp [hq, hp]
  · simp [hq, h.2 hq]
theorem AC.perm {P : Program} {D : Nat} {f : FuncId} {args : List Value} {L L1 : Hl} {s : World} {R R' : Value → Hl → World → Prop} (hp : L.Perm L1) (h : AC P D f args L1 s R) (hq : ∀ v L1' s', R v L1' s' → ∃ L', L1'.Perm L' ∧ R' v L' s') : AC P D f args L s R' :=
  ⟨h.1, fun ho => by
    rw [fill_perm hp _ ho]
    refine (h.2 (ho.perm hp)).mono ?_
    rintro e w' ⟨v, L1', s', he, hw, hok, hl, hr⟩
    obtain ⟨L', h1, h2⟩ := hq v L1' s' hr
    exact ⟨v, L', s', he, by rw [hw, fill_perm h1 _ hok], hok.perm h1, hl, h2⟩⟩
end Go.FL
namespace Go.Proofs.YteomcjpigoaioaaGreatDoor
open Go Go.FL Go.RowKit
structure Ln where
  label : List UInt8
  op : List UInt8
  has : Bool
  name : List UInt8
  num : Int
  deriving DecidableEq
def Ln.cs (x : Ln) : List Value := [St x.label, St x.op, .bool x.has, St x.name, .int .u32 x.num]
def opdL (w : List UInt8) : Option (List UInt8 × Int) :=
  if labelB (cutB 43 w).1 = true then (if (cutB 43 w).2.2 = true then (numL (cutB 43 w).2.1).map (fun (n : Nat) => ((cutB 43 w).1, (n : Int))) else some ((cutB 43 w).1, 0)) else (numL w).map fun (n : Nat) => ([], (n : Int))
def labW : List (List UInt8) → Option (List UInt8 × List (List UInt8))
  | [] => some ([], [])
  | w :: r => if endsB 58 w = true then (if labelB w.dropLast = true then some (w.dropLast, r) else none) else some ([], w :: r)
def bodyW (lab : List UInt8) : List (List UInt8) → Option Ln
  | [] => some ⟨lab, [], false, [], 0⟩
  | [o] => if labelB o = true then some ⟨lab, o, false, [], 0⟩ else none
  | [o, w] => if labelB o = true then (opdL w).map fun x => ⟨lab, o, true, x.1, x.2⟩ else none
  | _ :: _ :: _ :: _ => none
def lineW (ws : List (List UInt8)) : Option Ln := (labW ws).bind fun x => bodyW x.1 x.2
def lineL (l : List UInt8) : Option Ln := lineW (fldB (cutB 59 l).1)
theorem num_dec {l : List UInt8} {u : Nat} (h : Lib.parseUintB 32 l = .ok u) : decide (Lib.decDigits u = l) = (numL l).isSome := by
  by_cases hd : Lib.decDigits u = l
  · rw [(parse_num l u).1 ⟨h, hd⟩, decide_eq_true hd]; rfl
  · rw [decide_eq_false hd]
    cases hn : numL l with
    | none => rfl
    | some v =>
      obtain ⟨h1, h2⟩ := (parse_num l v).2 hn
      rw [h] at h1; injection h1 with h1; subst h1
      exact absurd h2 hd
theorem num_not {l : List UInt8} (h : ∀ u, Lib.parseUintB 32 l ≠ .ok u) : numL l = none := by
  cases hn : numL l with
  | none => rfl
  | some v => exact absurd ((parse_num l v).2 hn).1 (h v)
theorem num_val {l : List UInt8} {u v : Nat} (h : Lib.parseUintB 32 l = .ok u) (hn : numL l = some v) : u = v := by
  have h1 := ((parse_num l v).2 hn).1
  rw [h] at h1; injection h1
theorem wrapU32 (n : Int) : U32 (IntKind.u32.wrap n) := by rw [IntKind.wrap_u32]; exact ⟨by omega, by omega⟩
theorem wrap_small {n : Nat} (h : n < 4294967296) : IntKind.u32.wrap (n : Int) = (n : Int) := by rw [IntKind.wrap_u32]; omega
theorem Strs.tail {s : World} {A : Option Addr} {n c : Nat} {x : List UInt8} {l : List (List UInt8)} (h : Strs s A n c (x :: l)) : ∃ A1 n1 c1, (Value.slice (if c = 1 then A else A.map (·.add (1 * 1))) (n - 1) (c - 1)) = Value.slice A1 n1 c1 ∧ Strs s A1 n1 c1 l := by
  refine ⟨_, _, _, rfl, ?_, ?_, ?_, fun i y hy => ?_⟩
  · have := h.1; simp at this; omega
  · have := h.2.1; omega
  · have := h.2.2.1; omega
  · obtain ⟨b, off, cs, h1, h2, h3, h4⟩ := h.2.2.2 (i + 1) y (by simpa using hy)
    have hc : ¬ c = 1 := by
      have := h.1; have := h.2.1
      have := (List.getElem?_eq_some_iff.1 hy).1
      simp at *; omega
    rw [if_neg hc, h1]
    exact ⟨b, off + 1, cs, rfl, by rw [show off + 1 + i * 1 = off + (i + 1) * 1 by omega]; exact h2, h3, h4⟩
theorem Strs.head {s : World} {A : Option Addr} {n c : Nat} {l : List (List UInt8)} (h : Strs s A n c l) (hn : 0 < n) : ∃ b off x r, A = some ⟨b, off, none⟩ ∧ l = x :: r ∧ CellsAt s b (off + 0) [St x] ∧ x.length ≤ 9223372036854775807 := by
  obtain ⟨b, off, x, h1, h2, h3, h4⟩ := Strs.at_ h hn
  obtain ⟨r, hr⟩ : ∃ r, l = x :: r := by
    cases l with
    | nil => cases h2
    | cons y r => simp at h2; subst h2; exact ⟨r, rfl⟩
  exact ⟨b, off, x, r, h1, hr, h3, h4⟩
theorem cut_len (c : UInt8) (l : List UInt8) : (cutB c l).1.length ≤ l.length ∧ (cutB c l).2.1.length ≤ l.length := by
  unfold cutB
  split
  · exact ⟨Nat.le_refl _, by simp⟩
  · exact ⟨by simp; omega, by simp⟩
theorem labelB_len {l : List UInt8} (h : labelB l = true) : l ≠ [] ∧ l.length ≤ 6 := by
  simp only [labelB, Bool.and_eq_true, decide_eq_true_eq] at h
  exact ⟨h.1.1, h.1.2⟩
theorem lineL_of {l : List UInt8} {W R : List (List UInt8)} {lab : List UInt8} (hW : fldB (cutB 59 l).1 = W) (h : labW W = some (lab, R)) : lineL l = bodyW lab R := by
  rw [lineL, lineW, hW, h]; rfl
theorem lineL_no {l : List UInt8} {W : List (List UInt8)} (hW : fldB (cutB 59 l).1 = W) (h : labW W = none) : lineL l = none := by
  rw [lineL, lineW, hW, h]; rfl
theorem bodyW_one {lab o : List UInt8} (h : labelB o = true) : bodyW lab [o] = some ⟨lab, o, false, [], 0⟩ := by simp [bodyW, h]
theorem bodyW_two {lab o w : List UInt8} (h : labelB o = true) : bodyW lab [o, w] = (opdL w).map fun x => ⟨lab, o, true, x.1, x.2⟩ := by simp [bodyW, h]
theorem bodyW_bad {lab o : List UInt8} {r : List (List UInt8)} (h : labelB o = false) : bodyW lab (o :: r) = none := by
  match r with
  | [] => simp [bodyW, h]
  | [w] => simp [bodyW, h]
  | _ :: _ :: _ => rfl
theorem bodyW_long {lab : List UInt8} {r : List (List UInt8)} (h : 2 < r.length) : bodyW lab r = none := by
  match r, h with
  | _ :: _ :: _ :: _, _ => rfl
end Go.Proofs.YteomcjpigoaioaaGreatDoor
